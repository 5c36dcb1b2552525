/- The square root of a whole number is compared with a small whole number as the squares are. No program in sight. -/
import Derived.Test.YtpgdinpckolfpaaRdU
import Derived.Test.YtpgdinpckolfpaaRdS
import Derived.Test.YtpgdinpckolfpaaRdT
import Derived.Test.YtpgdinpckolfpaaFloatE
namespace Go.Proofs.Ytpgdinpckolfpaa
open Go.RowKit
attribute [local go_sem ↓] Go.wp_at_zero Go.wp_at_succ
attribute [local go_sem] run_max4

/-- what Leap tells -/
def lpV (x y : Int) : Value := match leapO x y with
  | none => .tuple #[.int .i64 0, .int .i64 0]
  | some (d, n) => .tuple #[.int .i64 d, .int .i64 n]
theorem leap_max {x y : Int} {d n : Nat} (h : leapO x y = some (d, n)) : max4 x (-x) y (-y) = n := by
  obtain ⟨hd, hn, hx, hy⟩ := leapO_spec h
  have h8 : d = 0 ∨ d = 1 ∨ d = 2 ∨ d = 3 ∨ d = 4 ∨ d = 5 ∨ d = 6 ∨ d = 7 := by omega
  unfold max4
  rcases h8 with rfl | rfl | rfl | rfl | rfl | rfl | rfl | rfl <;> simp [stepX, stepY] at hx hy <;> omega
theorem leap_hit {x y : Int} {j : Nat} (hj : j < 8) (h0 : 0 < max4 x (-x) y (-y)) (h1 : stepX j * max4 x (-x) y (-y) = x) (h2 : stepY j * max4 x (-x) y (-y) = y) : leapO x y = some (j, (max4 x (-x) y (-y)).toNat) := by
  obtain ⟨n, hn⟩ : ∃ n : Nat, max4 x (-x) y (-y) = n := ⟨(max4 x (-x) y (-y)).toNat, by omega⟩
  rw [hn] at h0 h1 h2
  have := leapO_of (d := j) (n := n) hj (by omega)
  rw [Int.mul_comm] at h1 h2
  rw [h1, h2] at this
  rw [this, hn]
  rfl
theorem mul_sgn {s m : Int} (h : s = -1 ∨ s = 0 ∨ s = 1) (h1 : 0 ≤ m) (h2 : m ≤ 33554432) : -33554432 ≤ s * m ∧ s * m ≤ 33554432 := by
  rcases h with rfl | rfl | rfl <;> omega
theorem max4_in {x y : Int} (h1 : -33554432 ≤ x ∧ x ≤ 33554432) (h2 : -33554432 ≤ y ∧ y ≤ 33554432) : 0 ≤ max4 x (-x) y (-y) ∧ max4 x (-x) y (-y) ≤ 33554432 := by
  unfold max4
  omega
set_option maxRecDepth 100000 in
set_option maxHeartbeats 6400000 in
theorem Leap_any (ax ay bx by' : Int) (w : World) (h1 : -16777216 ≤ ax ∧ ax ≤ 16777216) (h2 : -16777216 ≤ ay ∧ ay ≤ 16777216) (h3 : -16777216 ≤ bx ∧ bx ≤ 16777216) (h4 : -16777216 ≤ by' ∧ by' ≤ 16777216) :
    Calls Try.prog 36 #[.agg #[.int .i64 ax, .int .i64 ay], .agg #[.int .i64 bx, .int .i64 by']] w fun e w' => e = .returned (lpV (bx - ax) (by' - ay)) ∧ Ext w w' := by
  have HS := fun (j : Nat) (w : World) (h : j < 8) => hidA (step_any j w (by omega) (by omega))
  have v1 := hidA (show wrap64 (bx - ax) = bx - ax from IntWalk.wrap64_in _ ⟨by omega, by omega⟩)
  have v2 := hidA (show wrap64 (by' - ay) = by' - ay from IntWalk.wrap64_in _ ⟨by omega, by omega⟩)
  have v5 := hidA (show wrap64 (-(bx - ax)) = -(bx - ax) from IntWalk.wrap64_in _ ⟨by omega, by omega⟩)
  have v6 := hidA (show wrap64 (-(by' - ay)) = -(by' - ay) from IntWalk.wrap64_in _ ⟨by omega, by omega⟩)
  have hmx := max4_in (x := bx - ax) (y := by' - ay) ⟨by omega, by omega⟩ ⟨by omega, by omega⟩
  have Hbx := hidA (fun (j : Nat) => step_bd (j : Int))
  clear h1 h2 h3 h4
  go_enter Try.func36, Try.ntmps36
  go_upto_region 1 with fail
  have kA : Bk ((w.alloc (.cells #[.int .i64 ax, .int .i64 ay] 32)).alloc (.cells #[.int .i64 bx, .int .i64 by'] 32)) w.heap.size 32 #[.int .i64 ax, .int .i64 ay] := (Bk.new' rfl).alloc _
  have kB : Bk ((w.alloc (.cells #[.int .i64 ax, .int .i64 ay] 32)).alloc (.cells #[.int .i64 bx, .int .i64 by'] 32)) (w.heap.size + 1) 32 #[.int .i64 bx, .int .i64 by'] := Bk.new' (by simp)
  have hx0 : Ext w ((w.alloc (.cells #[.int .i64 ax, .int .i64 ay] 32)).alloc (.cells #[.int .i64 bx, .int .i64 by'] 32)) := ((Ext.refl w).alloc _).alloc _
  generalize (w.alloc (.cells #[.int .i64 ax, .int .i64 ay] 32)).alloc (.cells #[.int .i64 bx, .int .i64 by'] 32) = w0 at *
  have a0 := kA.cell 0
  have a1 := kA.cell 1
  have b0 := kB.cell 0
  have b1 := kB.cell 1
  have V1 := v1.out
  have V2 := v2.out
  go_quiet (fail)
  have hx1 : Ext w (w0.drewN nq) := hx0.drewN nq
  generalize w0.drewN nq = w1 at *
  clear a0 a1 b0 b1 hx0 kA kB
  go_upto_region 3 with fail
  clear v1 v2
  have V5 := v5.out
  have V6 := v6.out
  clear v5 v6
  simp only [V1, V2]
  generalize hxx : bx - ax = x at *
  generalize hyy : by' - ay = y at *
  have HXX := hidA hxx
  have HYY := hidA hyy
  clear hxx hyy
  have HV5 := hidA V5
  have HV6 := hidA V6
  have HV1 := hidA V1
  have HV2 := hidA V2
  clear V5 V6 V1 V2
  obtain ⟨mx, hm⟩ : ∃ mx, mx = max4 x (-x) y (-y) := ⟨_, rfl⟩
  rw [← hm] at hmx
  go_loopw [22] (fun s22 wr => ∃ j : Nat, j ≤ 8 ∧ s22 = .int .i64 j ∧ (∀ i : Nat, i < j → ¬ (0 < mx ∧ stepX i * mx = x ∧ stepY i * mx = y)) ∧ Ext w wr) (fun s22 _ => 8 - (intOf s22).toNat)
  case atStart => exact ⟨0, by omega, rfl, fun i h => by omega, hx1⟩
  case round =>
    clear hx1
    obtain ⟨j, hj, rfl, hno, hx⟩ := hrel
    have Hno := hidA hno
    clear hno
    by_cases hj8 : j < 8
    · have h8 : (j : Int) < 8 := by omega
      have HSj := fun (w : World) => HS j w hj8
      obtain ⟨s1, s2, s3, s4⟩ := Hbx.out j
      obtain ⟨m1, m2⟩ := mul_sgn (s := stepX j) (m := mx) (by omega) hmx.1 hmx.2
      obtain ⟨m3, m4⟩ := mul_sgn (s := stepY j) (m := mx) (by omega) hmx.1 hmx.2
      have W1 := hidA (show wrap64 (stepX j * mx) = stepX j * mx from IntWalk.wrap64_in _ ⟨by omega, by omega⟩)
      have W2 := hidA (show wrap64 (stepY j * mx) = stepY j * mx from IntWalk.wrap64_in _ ⟨by omega, by omega⟩)
      have Hhit := hidA (show 0 < mx → stepX j * mx = x → stepY j * mx = y → leapO x y = some (j, mx.toNat) from fun h1 h2 h3 => by rw [hm] at h1 h2 h3 ⊢; exact leap_hit hj8 h1 h2 h3)
      have Hmx := hidA hmx
      have Hm := hidA hm
      have Hnx := hidA (show ¬ (0 < mx ∧ stepX j * mx = x ∧ stepY j * mx = y) → ∀ i : Nat, i < j + 1 → ¬ (0 < mx ∧ stepX i * mx = x ∧ stepY i * mx = y) from fun h i hi => by
        by_cases e : i = j
        · subst e; exact h
        · exact Hno.out i (by omega))
      have hcase : (¬ 0 < mx ∧ Hid (∀ i : Nat, i < j + 1 → ¬ (0 < mx ∧ stepX i * mx = x ∧ stepY i * mx = y))) ∨ (0 < mx ∧ ¬ stepX j * mx = x ∧ Hid (∀ i : Nat, i < j + 1 → ¬ (0 < mx ∧ stepX i * mx = x ∧ stepY i * mx = y))) ∨ (0 < mx ∧ stepX j * mx = x ∧ ¬ stepY j * mx = y ∧ Hid (∀ i : Nat, i < j + 1 → ¬ (0 < mx ∧ stepX i * mx = x ∧ stepY i * mx = y))) ∨ (0 < mx ∧ stepX j * mx = x ∧ stepY j * mx = y ∧ Hid (leapO x y = some (j, mx.toNat))) := by
        by_cases c1 : 0 < mx
        · by_cases c2 : stepX j * mx = x
          · by_cases c3 : stepY j * mx = y
            · exact .inr (.inr (.inr ⟨c1, c2, c3, Hhit.out c1 c2 c3⟩))
            · exact .inr (.inr (.inl ⟨c1, c2, c3, Hnx.out (fun h => c3 h.2.2)⟩))
          · exact .inr (.inl ⟨c1, c2, Hnx.out (fun h => c2 h.2.1)⟩)
        · exact .inl ⟨c1, Hnx.out (fun h => c1 h.1)⟩
      clear s1 s2 s3 s4 m1 m2 m3 m4 hmx Hhit Hnx
      generalize stepX (j : Int) = sx at *
      generalize stepY (j : Int) = sy at *
      have hm' : max4 x (-x) y (-y) = mx := hm.symm
      clear hm
      have V5 := HV5.out
      have V6 := HV6.out
      go_upto_region 7 with (go_at_call 37; refine ((HSj _).out).mono ?_; rintro e w3 ⟨rfl, hx3⟩)
      clear V5 V6 hm'
      have w1' := W1.out
      have w2' := W2.out
      rcases hcase with ⟨c1, Hq⟩ | ⟨c1, c2, Hq⟩ | ⟨c1, c2, c3, Hq⟩ | ⟨c1, c2, c3, Hq⟩
      · have b1 : decide (0 < mx) = false := by simp; exact c1
        go_wp2
        all_goals
          clear w1' w2' c1 b1
          go_roundw
          case rel => exact ⟨j + 1, by omega, by go_num, Hq.out, hx.trans hx3⟩
          case measure => simp [intOf]; omega
      · have b2 : (sx * mx == x) = false := by simp [c2]
        go_wp2
        all_goals
          clear w1' w2' c1 c2 b2
          go_roundw
          case rel => exact ⟨j + 1, by omega, by go_num, Hq.out, hx.trans hx3⟩
          case measure => simp [intOf]; omega
      · have b3 : (sy * mx == y) = false := by simp [c3]
        go_wp2
        all_goals
          clear w1' w2' c1 c2 c3 b3
          go_roundw
          case rel => exact ⟨j + 1, by omega, by go_num, Hq.out, hx.trans hx3⟩
          case measure => simp [intOf]; omega
      · have hmn : ((mx.toNat : Nat) : Int) = mx := by have := Hmx.out; clear w1' w2' c2 c3; omega
        have HE : Hid (lpV x y = .tuple #[.int .i64 j, .int .i64 mx]) := by show _ = _; unfold lpV; rw [Hq.out]; simp only [hmn]
        clear hmn
        have b1 : decide (0 < mx) = true := by simp; exact c1
        have b2 : (sx * mx == x) = true := by simp [c2]
        have b3 : (sy * mx == y) = true := by simp [c3]
        have V1 := HV1.out
        have V2 := HV2.out
        go_wp2
        go_ret2
        exact ⟨by rw [HXX.out, HYY.out, HE.out]; rfl, hx.trans hx3⟩
    · have hj9 : j = 8 := by omega
      subst hj9
      have HE : Hid (lpV x y = .tuple #[.int .i64 0, .int .i64 0]) := by
        show _ = _
        unfold lpV
        cases h : leapO x y with
        | none => rfl
        | some p =>
          obtain ⟨d, n⟩ := p
          obtain ⟨a1, a2, a3, a4⟩ := leapO_spec h
          have a5 := leap_max h
          rw [← hm] at a5
          exact absurd ⟨by omega, by rw [a5, Int.mul_comm]; exact a3.symm, by rw [a5, Int.mul_comm]; exact a4.symm⟩ (Hno.out d a1)
      go_wp2
      go_ret2
      exact ⟨by rw [HXX.out, HYY.out, HE.out]; rfl, hx⟩
end Go.Proofs.Ytpgdinpckolfpaa

namespace Go.Proofs.Ytpgdinpckolfpaa
open Go.RowKit
attribute [local go_sem ↓] Go.wp_at_zero Go.wp_at_succ
attribute [local go_sem] run_store_float

/-- whether a place is too far away -/
def farP (p : Int × Int) : Bool := decide (p.1 < -4194304) || decide (4194304 < p.1) || decide (p.2 < -4194304) || decide (4194304 < p.2)
theorem farP_false {p : Int × Int} (h : farP p = false) : -4194304 ≤ p.1 ∧ p.1 ≤ 4194304 ∧ -4194304 ≤ p.2 ∧ p.2 ≤ 4194304 := by
  unfold farP at h
  simp at h
  omega
theorem noisePlace_any (x y : Int) (w : World) :
    Calls Try.prog 112 #[.int .i64 x, .int .i64 y] w fun e w' => e = .returned (.int .i64 (if farP (x, y) = true then 5 else 0)) ∧ w = w' := by
  rcases (by omega : x < -4194304 ∨ (¬ x < -4194304 ∧ 4194304 < x) ∨ (¬ x < -4194304 ∧ ¬ 4194304 < x ∧ y < -4194304) ∨ (¬ x < -4194304 ∧ ¬ 4194304 < x ∧ ¬ y < -4194304 ∧ 4194304 < y) ∨ (¬ x < -4194304 ∧ ¬ 4194304 < x ∧ ¬ y < -4194304 ∧ ¬ 4194304 < y)) with c1 | ⟨c1, c2⟩ | ⟨c1, c2, c3⟩ | ⟨c1, c2, c3, c4⟩ | ⟨c1, c2, c3, c4⟩
  case inr.inr.inr.inr =>
    have hf : farP (x, y) = false := by unfold farP; simp; omega
    rw [hf]
    clear hf
    go_enter Try.func112, Try.ntmps112
    go_wp2
    go_ret
    exact ⟨rfl, rfl⟩
  all_goals
    have hf : farP (x, y) = true := by unfold farP; simp; omega
    rw [hf]
    clear hf
    go_enter Try.func112, Try.ntmps112
    go_wp2
    go_ret
    exact ⟨rfl, rfl⟩
theorem place_any (x y : Int) (w : World) :
    Calls Try.prog 77 #[.agg #[.int .i64 x, .int .i64 y]] w fun e w' => e = .returned (.int .i64 (if farP (x, y) = true then 5 else 0)) ∧ Ext w w' := by
  have HN := fun (w : World) => hidA (noisePlace_any x y w)
  generalize (if farP (x, y) = true then (5 : Int) else 0) = e0 at *
  go_enter Try.func77, Try.ntmps77
  go_wp2_with (go_at_call 112; refine ((HN _).out).mono ?_; rintro e w3 ⟨rfl, rfl⟩)
  go_ret
  exact ⟨rfl, (by repeat (first | exact Ext.refl _ | assumption | refine Ext.setCell ?_ (by first | (simp; done) | (simp; omega)) _ | refine Ext.drewN ?_ _ | refine Ext.alloc ?_ _ | refine Ext.drew ?_ | refine Ext.trans ?_ (by assumption)))⟩
theorem enters_place : ∀ args w, (callFunc 77 args).run Try.prog w = .ok (.enter 77 args) w := enters_of Try.func77 (by kernel_rfl) rfl
/-- a step that a way may not have -/
def stepBad (a b : Int × Int) : Bool := match leapO (b.1 - a.1) (b.2 - a.2) with
  | none => true
  | some (_, n) => decide (12 < n)
/-- the error of a way, from place k on -/
def wayI (bad : Int × Int → Bool) (l : List (Int × Int)) : Nat → Nat → Int
  | _, 0 => 0
  | k, m + 1 => if bad (l.getD k (0, 0)) = true then 5 else if 0 < k ∧ stepBad (l.getD (k - 1) (0, 0)) (l.getD k (0, 0)) = true then 2 else wayI bad l (k + 1) m
def wayE (bad : Int × Int → Bool) (l : List (Int × Int)) : Int := if l.length = 0 then 10 else if 65536 < l.length then 4 else wayI bad l 0 l.length
theorem wayI_step {bad : Int × Int → Bool} {l : List (Int × Int)} {k n : Nat} (h : k < n) : wayI bad l k (n - k) = if bad (l.getD k (0, 0)) = true then 5 else if 0 < k ∧ stepBad (l.getD (k - 1) (0, 0)) (l.getD k (0, 0)) = true then 2 else wayI bad l (k + 1) (n - (k + 1)) := by
  obtain ⟨m, hm⟩ : ∃ m, n - k = m + 1 := ⟨n - k - 1, by omega⟩
  rw [hm, wayI, show n - (k + 1) = m by omega]
theorem pt_at {w : World} {A : Option Addr} {l : List (Int × Int)} (h : Rd w A (ptv l)) {k : Nat} (hk : k < l.length) : ∃ ad, A = some ad ∧ ad.block < w.heap.size ∧ w.cell? (ad.add (k * 2)) = some (.int .i64 (l.getD k (0, 0)).1) ∧ w.cell? ⟨(ad.add (k * 2)).block, (ad.add (k * 2)).off + 1, none⟩ = some (.int .i64 (l.getD k (0, 0)).2) := by
  obtain ⟨ad, rfl, hb, hc⟩ := h (by rintro e; have := ptv_length l; rw [e] at this; simp at this; omega)
  have ek : l.getD k (0, 0) = l[k] := by simp [List.getD_eq_getElem?_getD, hk]
  rw [ek]
  refine ⟨ad, rfl, hb, hc _ _ (ptv_get hk).1, ?_⟩
  have := hc _ _ (ptv_get hk).2
  rw [show ad.add (k * 2 + 1) = ⟨(ad.add (k * 2)).block, (ad.add (k * 2)).off + 1, none⟩ from (add_off ad (k * 2) (by omega)).symm] at this
  exact this
set_option maxRecDepth 100000 in
set_option maxHeartbeats 6400000 in
theorem checkWay_any (fid : Nat) (caps : Array Value) (henter : ∀ args w, (callFunc fid args).run Try.prog w = .ok (.enter fid args) w) (bad : Int × Int → Bool) (A : Option Addr) (n c : Nat) (l : List (Int × Int)) (w : World)
    (hbad : ∀ p, bad p = false → -4194304 ≤ p.1 ∧ p.1 ≤ 4194304 ∧ -4194304 ≤ p.2 ∧ p.2 ≤ 4194304) (hp : ∀ (x y : Int) (w' : World), Ext w w' → Calls Try.prog fid (#[.agg #[.int .i64 x, .int .i64 y]] ++ caps) w' fun e w'' => e = .returned (.int .i64 (if bad (x, y) = true then 5 else 0)) ∧ Ext w' w'')
    (hn : l.length = n) (hV : Rd w A (ptv l)) :
    Calls Try.prog 80 #[.slice A n c, .func (.func fid) #[] caps] w fun e w' => e = .returned (.int .i64 (wayE bad l)) ∧ Ext w w' := by
  have HP := hidA hp
  have Hbad := hidA hbad
  have Hn := hidA hn
  have hE : Hid (wayE bad l = if n = 0 then 10 else if 65536 < n then 4 else wayI bad l 0 n) := by show _ = _; unfold wayE; rw [hn]
  generalize wayE bad l = E at *
  clear hp hbad hn
  go_enter Try.func80, Try.ntmps80
  by_cases h0 : n = 0
  · have HE2 := hidA (hE.out.trans (if_pos h0))
    have HA2 := fun (w : World) => hidA (show Calls Try.prog 69 #[.slice A n c] w fun e w' => e = .returned (.int .i64 10) ∧ w = w' from by have h := amount_any A n c w; rw [if_pos h0] at h; exact h)
    clear hE h0
    go_wp2_with (go_at_call 69; refine (HA2 _).out.mono ?_; rintro e w3 ⟨rfl, rfl⟩)
    go_ret
    exact ⟨ret_i HE2.out.symm, Ext.refl _⟩
  by_cases h6 : 65536 < n
  · have HE2 := hidA ((hE.out.trans (if_neg h0)).trans (if_pos h6))
    have HA2 := fun (w : World) => hidA (show Calls Try.prog 69 #[.slice A n c] w fun e w' => e = .returned (.int .i64 4) ∧ w = w' from by have h := amount_any A n c w; rw [if_neg h0, if_pos h6] at h; exact h)
    clear hE h0 h6
    go_wp2_with (go_at_call 69; refine (HA2 _).out.mono ?_; rintro e w3 ⟨rfl, rfl⟩)
    go_ret
    exact ⟨ret_i HE2.out.symm, Ext.refl _⟩
  have HE2 := hidA ((hE.out.trans (if_neg h0)).trans (if_neg h6))
  have HA2 := fun (w : World) => hidA (show Calls Try.prog 69 #[.slice A n c] w fun e w' => e = .returned (.int .i64 0) ∧ w = w' from by have h := amount_any A n c w; rw [if_neg h0, if_neg h6] at h; exact h)
  clear hE
  have h65 : n ≤ 65536 := by omega
  go_upto_region 5 with (go_at_call 69; refine (HA2 _).out.mono ?_; rintro e w3 ⟨rfl, rfl⟩)
  go_loopw [18] (fun s18 wr => ∃ k : Nat, k ≤ n ∧ s18 = .int .i64 k ∧ E = wayI bad l k (n - k) ∧ (0 < k → bad (l.getD (k - 1) (0, 0)) = false) ∧ Ext w wr) (fun s18 _ => n - (intOf s18).toNat)
  case atStart => exact ⟨0, Nat.zero_le _, rfl, by rw [HE2.out]; rfl, fun h => by omega, Ext.refl _⟩
  case round =>
    obtain ⟨k, hk, rfl, hEk, hprev, hx⟩ := hrel
    have HEk := hidA hEk
    have Hprev := hidA hprev
    clear hEk hprev
    by_cases hkn : k < n
    · have hkl : k < l.length := by have := Hn.out; omega
      obtain ⟨ad, rfl, hbk, d0, d1⟩ := pt_at (hV.ext hx) hkl
      have HE3 := hidA (HEk.out.trans (wayI_step hkn))
      have i0 : (0 : Int) ≤ k := by omega
      have i1 : (k : Int) < n := by omega
      obtain ⟨px, py, hpp⟩ : ∃ px py, l.getD k (0, 0) = (px, py) := ⟨_, _, rfl⟩
      have hpp2 := hidA hpp
      rw [hpp] at d0 d1
      have HE4 := hidA (show E = if bad (px, py) = true then 5 else if 0 < k ∧ stepBad (l.getD (k - 1) (0, 0)) (px, py) = true then 2 else wayI bad l (k + 1) (n - (k + 1)) from by rw [HE3.out, hpp])
      have HP1 := fun (w' : World) (h : Ext w w') => HP.out px py w' h
      clear hpp HE3 HEk
      dsimp only at d0 d1
      cases hb : bad (px, py)
      · have HE5 := hidA (HE4.out.trans (if_neg (by rw [hb]; decide)))
        have Hb := hidA hb
        have hpb := Hbad.out _ hb
        rw [hb] at HP1
        simp only [Bool.false_eq_true, if_false] at HP1
        have HP2 := hidA HP1
        clear hb HE4 HP1
        go_upto_region 7 with fail
        have kP : Bk (wr.alloc (.cells #[.int .i64 px, .int .i64 py] 32)) wr.heap.size 32 #[.int .i64 px, .int .i64 py] := Bk.new' rfl
        have hx1 := hx.alloc (.cells #[.int .i64 px, .int .i64 py] 32)
        clear d0 d1
        generalize wr.alloc (.cells #[.int .i64 px, .int .i64 py] 32) = w1 at *
        generalize wr.heap.size = ha at *
        have p0 := kP.cell 0
        have p1 := kP.cell 1
        go_wp2_with fail
        refine (HP2.out _ hx1).mono ?_
        rintro e w2 ⟨rfl, hx2⟩
        have kP2 := kP.ext hx2
        have hx3 := hx1.trans hx2
        clear p0 p1 kP hx1 hx2 HP2
        by_cases hk0 : k = 0
        · subst hk0
          have HE6 := hidA (HE5.out.trans (if_neg (by omega)))
          clear HE5
          go_wp2
          go_roundw
          case rel => exact ⟨1, by omega, rfl, HE6.out, fun _ => by show bad (l.getD 0 (0, 0)) = false; rw [hpp2.out]; exact Hb.out, hx3⟩
          case measure => simp [intOf]; omega
        · have hkl1 : k - 1 < l.length := by omega
          have hpq := Hbad.out _ (Hprev.out (by omega))
          obtain ⟨qx, qy, hqq⟩ : ∃ qx qy, l.getD (k - 1) (0, 0) = (qx, qy) := ⟨_, _, rfl⟩
          rw [hqq] at hpq
          dsimp only at hpq hpb
          have HBt := fun (w : World) => hidA (between_any qx qy px py w (by omega) (by omega) (by omega) (by omega))
          have HE6 := hidA (show E = if stepBad (qx, qy) (px, py) = true then 2 else wayI bad l (k + 1) (n - (k + 1)) from by rw [HE5.out, hqq]; simp [show 0 < k by omega])
          have e0 : ∀ w', Ext w2 w' → w'.cell? (ad.add ((k - 1) * 2)) = some (.int .i64 qx) := fun w' h => by
            obtain ⟨ad', e, _, d0, d1⟩ := pt_at (hV.ext (hx3.trans h)) hkl1
            injection e with e
            subst e
            rw [hqq] at d0
            exact d0
          have e1 : ∀ w', Ext w2 w' → w'.cell? ⟨(ad.add ((k - 1) * 2)).block, (ad.add ((k - 1) * 2)).off + 1, none⟩ = some (.int .i64 qy) := fun w' h => by
            obtain ⟨ad', e, _, d0, d1⟩ := pt_at (hV.ext (hx3.trans h)) hkl1
            injection e with e
            subst e
            rw [hqq] at d1
            exact d1
          have f0 : ∀ w', Ext w2 w' → w'.cell? ⟨ha, 0, none⟩ = some (.int .i64 px) := fun w' h => (kP2.ext h).cell 0
          have f1 : ∀ w', Ext w2 w' → w'.cell? ⟨ha, 1, none⟩ = some (.int .i64 py) := fun w' h => (kP2.ext h).cell 1
          have j0 : (0 : Int) ≤ ((k - 1 : Nat) : Int) := by omega
          have j1 : ((k - 1 : Nat) : Int) < n := by omega
          have hk0' : ¬ (k : Int) = 0 := by omega
          have Hwk := hidA (show wrap64 ((k : Int) - 1) = ((k - 1 : Nat) : Int) by rw [IntWalk.wrap64_in _ ⟨by omega, by omega⟩]; omega)
          have Hwk2 := hidA (show IntKind.i64.wrap ((k : Int) - 1) = ((k - 1 : Nat) : Int) by rw [IntWalk.i64_in _ ⟨by omega, by omega⟩]; omega)
          have Hhx := hidA hx3
          clear hpq hpb HE5 hqq kP2
          unfold btV at HBt
          cases hlp : leapO (px - qx) (py - qy) with
          | none =>
            have HE7 := hidA (HE6.out.trans (if_pos (by unfold stepBad; rw [hlp])))
            rw [hlp] at HBt
            clear hlp
            have wk := Hwk.out
            have wk2 := Hwk2.out
            go_upto_region 11 with fail
            refine wp_region_noPanic ?_
            refine wp_region_held_drew (S := fun w' => Ext w2 w') (by kernel_rfl) ?_ (fun hHeld => ?_)
            · (repeat (first | exact Ext.refl _ | assumption | refine Ext.setCell ?_ (by first | (simp; done) | (simp; omega)) _ | refine Ext.drewN ?_ _ | refine Ext.alloc ?_ _ | refine Ext.drew ?_ | refine Ext.trans ?_ (by assumption)))
            refine wpAnyH_take (i := 0) (oi := ?o1x0) (v := ?v1x0) ?hi1x0 (by kernel_rfl) ?hf1x0 ?hr1x0 (fun _ _ _ h => h) ?hy1x0 (by assumption) ?rest1x0
            case hi1x0 => (simp only [List.getElem?_toArray, List.getElem?_cons_zero]; exact rfl)
            case hf1x0 => kernel_rfl
            case hr1x0 => kernel_rfl
            case hy1x0 => (refine Or.inl ⟨by rfl, ?_⟩; intro w hSw; (try dsimp only at hSw); go_simp; try with_reducible rfl)
            simp only [put_mk, List.set_cons_succ, List.set_cons_zero]
            refine wpAnyH_take (i := 1) (oi := ?o1x1) (v := ?v1x1) ?hi1x1 (by kernel_rfl) ?hf1x1 ?hr1x1 (fun _ _ _ h => h) ?hy1x1 (by assumption) ?rest1x1
            case hi1x1 => (simp only [List.getElem?_toArray, List.getElem?_cons_succ, List.getElem?_cons_zero]; exact rfl)
            case hf1x1 => kernel_rfl
            case hr1x1 => kernel_rfl
            case hy1x1 => (refine Or.inl ⟨by rfl, ?_⟩; intro w hSw; (try dsimp only at hSw); go_simp; try with_reducible rfl)
            simp only [put_mk, List.set_cons_succ, List.set_cons_zero]
            refine wpAnyH_take (i := 2) (oi := ?o1x2) (v := ?v1x2) ?hi1x2 (by kernel_rfl) ?hf1x2 ?hr1x2 (fun _ _ _ h => h) ?hy1x2 (by assumption) ?rest1x2
            case hi1x2 => (simp only [List.getElem?_toArray, List.getElem?_cons_succ, List.getElem?_cons_zero]; exact rfl)
            case hf1x2 => kernel_rfl
            case hr1x2 => kernel_rfl
            case hy1x2 => (refine Or.inl ⟨by rfl, ?_⟩; intro w hSw; (try dsimp only at hSw); go_simp; try with_reducible rfl)
            simp only [put_mk, List.set_cons_succ, List.set_cons_zero]
            refine wpAnyH_take (i := 3) (oi := ?o1x3) (v := ?v1x3) ?hi1x3 (by kernel_rfl) ?hf1x3 ?hr1x3 (fun _ _ _ h => h) ?hy1x3 (by assumption) ?rest1x3
            case hi1x3 => (simp only [List.getElem?_toArray, List.getElem?_cons_succ, List.getElem?_cons_zero]; exact rfl)
            case hf1x3 => kernel_rfl
            case hr1x3 => kernel_rfl
            case hy1x3 => (refine Or.inl ⟨by rfl, ?_⟩; intro w hSw; (try dsimp only at hSw); go_simp; try with_reducible rfl)
            simp only [put_mk, List.set_cons_succ, List.set_cons_zero]
            refine wpAnyH_take (i := 4) (oi := ?o1x4) (v := ?v1x4) ?hi1x4 (by kernel_rfl) ?hf1x4 ?hr1x4 (fun _ _ _ h => h) ?hy1x4 (by assumption) ?rest1x4
            case hi1x4 => (simp only [List.getElem?_toArray, List.getElem?_cons_succ, List.getElem?_cons_zero]; exact rfl)
            case hf1x4 => kernel_rfl
            case hr1x4 => kernel_rfl
            case hy1x4 => (refine Or.inl ⟨by rfl, ?_⟩; intro w hSw; (try dsimp only at hSw); go_simp; try with_reducible rfl)
            simp only [put_mk, List.set_cons_succ, List.set_cons_zero]
            refine wpAnyH_take (i := 5) (oi := ?o1x5) (v := ?v1x5) ?hi1x5 (by kernel_rfl) ?hf1x5 ?hr1x5 (fun _ _ _ h => h) ?hy1x5 (by assumption) ?rest1x5
            case hi1x5 => (simp only [List.getElem?_toArray, List.getElem?_cons_succ, List.getElem?_cons_zero]; exact rfl)
            case hf1x5 => kernel_rfl
            case hr1x5 => kernel_rfl
            case hy1x5 => (refine Or.inl ⟨by rfl, ?_⟩; intro w hSw; (try dsimp only at hSw); go_simp; try with_reducible rfl)
            simp only [put_mk, List.set_cons_succ, List.set_cons_zero]
            refine wpAnyH_ready (rs := [6]) (by kernel_rfl) (by simp) ?_
            refine AllReadyH.cons (o := ?o1x6) ?hi1x6 (fun K hK => ?_) AllReadyH.nil
            case hi1x6 => (simp only [List.getElem?_toArray, List.getElem?_cons_succ, List.getElem?_cons_zero]; exact rfl)
            go_simp
            go_at_call 78; refine ((HBt _).out).mono ?_; rintro e w5 ⟨rfl, hx5⟩
            refine hK.out _ _ ?_ (fun hHeld => ?_)
            · (repeat (first | exact Ext.refl _ | assumption | refine Ext.setCell ?_ (by first | (simp; done) | (simp; omega)) _ | refine Ext.drewN ?_ _ | refine Ext.alloc ?_ _ | refine Ext.drew ?_ | refine Ext.trans ?_ (by assumption)))
            clear hK K
            refine wpAnyH_take (i := 7) (oi := ?o1x7) (v := ?v1x7) ?hi1x7 (by kernel_rfl) ?hf1x7 ?hr1x7 (fun _ _ _ h => h) ?hy1x7 (by assumption) ?rest1x7
            case hi1x7 => (simp only [List.getElem?_toArray, List.getElem?_cons_succ, List.getElem?_cons_zero]; exact rfl)
            case hf1x7 => kernel_rfl
            case hr1x7 => kernel_rfl
            case hy1x7 => (refine Or.inl ⟨by rfl, ?_⟩; intro w hSw; (try dsimp only at hSw); go_simp; try with_reducible rfl)
            simp only [put_mk, List.set_cons_succ, List.set_cons_zero]
            refine wpAnyH_take (i := 8) (oi := ?o1x8) (v := ?v1x8) ?hi1x8 (by kernel_rfl) ?hf1x8 ?hr1x8 (fun _ _ _ h => h) ?hy1x8 (by assumption) ?rest1x8
            case hi1x8 => (simp only [List.getElem?_toArray, List.getElem?_cons_succ, List.getElem?_cons_zero]; exact rfl)
            case hf1x8 => kernel_rfl
            case hr1x8 => kernel_rfl
            case hy1x8 => (refine Or.inl ⟨by rfl, ?_⟩; intro w hSw; (try dsimp only at hSw); go_simp; try with_reducible rfl)
            simp only [put_mk, List.set_cons_succ, List.set_cons_zero]
            refine wpAnyH_take (i := 9) (oi := ?o1x9) (v := ?v1x9) ?hi1x9 (by kernel_rfl) ?hf1x9 ?hr1x9 (fun _ _ _ h => h) ?hy1x9 (by assumption) ?rest1x9
            case hi1x9 => (simp only [List.getElem?_toArray, List.getElem?_cons_succ, List.getElem?_cons_zero]; exact rfl)
            case hf1x9 => kernel_rfl
            case hr1x9 => kernel_rfl
            case hy1x9 => (refine Or.inl ⟨by rfl, ?_⟩; intro w hSw; (try dsimp only at hSw); go_simp; try with_reducible rfl)
            simp only [put_mk, List.set_cons_succ, List.set_cons_zero]
            refine wpAnyH_take (i := 10) (oi := ?o1x10) (v := ?v1x10) ?hi1x10 (by kernel_rfl) ?hf1x10 ?hr1x10 (fun _ _ _ h => h) ?hy1x10 (by assumption) ?rest1x10
            case hi1x10 => (simp only [List.getElem?_toArray, List.getElem?_cons_succ, List.getElem?_cons_zero]; exact rfl)
            case hf1x10 => kernel_rfl
            case hr1x10 => kernel_rfl
            case hy1x10 => (refine Or.inl ⟨by rfl, ?_⟩; intro w hSw; (try dsimp only at hSw); go_simp; try with_reducible rfl)
            simp only [put_mk, List.set_cons_succ, List.set_cons_zero]
            refine wpAnyH_take (i := 11) (oi := ?o1x11) (v := ?v1x11) ?hi1x11 (by kernel_rfl) ?hf1x11 ?hr1x11 (fun _ _ _ h => h) ?hy1x11 (by assumption) ?rest1x11
            case hi1x11 => (simp only [List.getElem?_toArray, List.getElem?_cons_succ, List.getElem?_cons_zero]; exact rfl)
            case hf1x11 => kernel_rfl
            case hr1x11 => kernel_rfl
            case hy1x11 => (refine Or.inl ⟨by rfl, ?_⟩; intro w hSw; (try dsimp only at hSw); go_simp; try with_reducible rfl)
            simp only [put_mk, List.set_cons_succ, List.set_cons_zero]
            refine wpAnyH_done (by kernel_rfl) ?_ _
            refine NoPanic.normal ?_
            clear e0 e1 f0 f1 wk wk2
            go_wp2
            go_ret
            exact ⟨ret_i HE7.out.symm, Hhx.out.trans hHeld⟩
          | some z =>
            obtain ⟨d, n'⟩ := z
            have hd8 := (leapO_spec hlp).1
            rw [hlp] at HBt
            have hdn : ((d : Int) == -1) = false := by simp
            by_cases h12 : 12 < n'
            · have HE7 := hidA (HE6.out.trans (if_pos (by unfold stepBad; rw [hlp]; simpa using h12)))
              have h13 : (12 : Int) < n' := by omega
              clear hlp
              have wk := Hwk.out
              have wk2 := Hwk2.out
              go_upto_region 11 with fail
              refine wp_region_noPanic ?_
              refine wp_region_held_drew (S := fun w' => Ext w2 w') (by kernel_rfl) ?_ (fun hHeld => ?_)
              · (repeat (first | exact Ext.refl _ | assumption | refine Ext.setCell ?_ (by first | (simp; done) | (simp; omega)) _ | refine Ext.drewN ?_ _ | refine Ext.alloc ?_ _ | refine Ext.drew ?_ | refine Ext.trans ?_ (by assumption)))
              refine wpAnyH_take (i := 0) (oi := ?o2x0) (v := ?v2x0) ?hi2x0 (by kernel_rfl) ?hf2x0 ?hr2x0 (fun _ _ _ h => h) ?hy2x0 (by assumption) ?rest2x0
              case hi2x0 => (simp only [List.getElem?_toArray, List.getElem?_cons_zero]; exact rfl)
              case hf2x0 => kernel_rfl
              case hr2x0 => kernel_rfl
              case hy2x0 => (refine Or.inl ⟨by rfl, ?_⟩; intro w hSw; (try dsimp only at hSw); go_simp; try with_reducible rfl)
              simp only [put_mk, List.set_cons_succ, List.set_cons_zero]
              refine wpAnyH_take (i := 1) (oi := ?o2x1) (v := ?v2x1) ?hi2x1 (by kernel_rfl) ?hf2x1 ?hr2x1 (fun _ _ _ h => h) ?hy2x1 (by assumption) ?rest2x1
              case hi2x1 => (simp only [List.getElem?_toArray, List.getElem?_cons_succ, List.getElem?_cons_zero]; exact rfl)
              case hf2x1 => kernel_rfl
              case hr2x1 => kernel_rfl
              case hy2x1 => (refine Or.inl ⟨by rfl, ?_⟩; intro w hSw; (try dsimp only at hSw); go_simp; try with_reducible rfl)
              simp only [put_mk, List.set_cons_succ, List.set_cons_zero]
              refine wpAnyH_take (i := 2) (oi := ?o2x2) (v := ?v2x2) ?hi2x2 (by kernel_rfl) ?hf2x2 ?hr2x2 (fun _ _ _ h => h) ?hy2x2 (by assumption) ?rest2x2
              case hi2x2 => (simp only [List.getElem?_toArray, List.getElem?_cons_succ, List.getElem?_cons_zero]; exact rfl)
              case hf2x2 => kernel_rfl
              case hr2x2 => kernel_rfl
              case hy2x2 => (refine Or.inl ⟨by rfl, ?_⟩; intro w hSw; (try dsimp only at hSw); go_simp; try with_reducible rfl)
              simp only [put_mk, List.set_cons_succ, List.set_cons_zero]
              refine wpAnyH_take (i := 3) (oi := ?o2x3) (v := ?v2x3) ?hi2x3 (by kernel_rfl) ?hf2x3 ?hr2x3 (fun _ _ _ h => h) ?hy2x3 (by assumption) ?rest2x3
              case hi2x3 => (simp only [List.getElem?_toArray, List.getElem?_cons_succ, List.getElem?_cons_zero]; exact rfl)
              case hf2x3 => kernel_rfl
              case hr2x3 => kernel_rfl
              case hy2x3 => (refine Or.inl ⟨by rfl, ?_⟩; intro w hSw; (try dsimp only at hSw); go_simp; try with_reducible rfl)
              simp only [put_mk, List.set_cons_succ, List.set_cons_zero]
              refine wpAnyH_take (i := 4) (oi := ?o2x4) (v := ?v2x4) ?hi2x4 (by kernel_rfl) ?hf2x4 ?hr2x4 (fun _ _ _ h => h) ?hy2x4 (by assumption) ?rest2x4
              case hi2x4 => (simp only [List.getElem?_toArray, List.getElem?_cons_succ, List.getElem?_cons_zero]; exact rfl)
              case hf2x4 => kernel_rfl
              case hr2x4 => kernel_rfl
              case hy2x4 => (refine Or.inl ⟨by rfl, ?_⟩; intro w hSw; (try dsimp only at hSw); go_simp; try with_reducible rfl)
              simp only [put_mk, List.set_cons_succ, List.set_cons_zero]
              refine wpAnyH_take (i := 5) (oi := ?o2x5) (v := ?v2x5) ?hi2x5 (by kernel_rfl) ?hf2x5 ?hr2x5 (fun _ _ _ h => h) ?hy2x5 (by assumption) ?rest2x5
              case hi2x5 => (simp only [List.getElem?_toArray, List.getElem?_cons_succ, List.getElem?_cons_zero]; exact rfl)
              case hf2x5 => kernel_rfl
              case hr2x5 => kernel_rfl
              case hy2x5 => (refine Or.inl ⟨by rfl, ?_⟩; intro w hSw; (try dsimp only at hSw); go_simp; try with_reducible rfl)
              simp only [put_mk, List.set_cons_succ, List.set_cons_zero]
              refine wpAnyH_ready (rs := [6]) (by kernel_rfl) (by simp) ?_
              refine AllReadyH.cons (o := ?o2x6) ?hi2x6 (fun K hK => ?_) AllReadyH.nil
              case hi2x6 => (simp only [List.getElem?_toArray, List.getElem?_cons_succ, List.getElem?_cons_zero]; exact rfl)
              go_simp
              go_at_call 78; refine ((HBt _).out).mono ?_; rintro e w5 ⟨rfl, hx5⟩
              refine hK.out _ _ ?_ (fun hHeld => ?_)
              · (repeat (first | exact Ext.refl _ | assumption | refine Ext.setCell ?_ (by first | (simp; done) | (simp; omega)) _ | refine Ext.drewN ?_ _ | refine Ext.alloc ?_ _ | refine Ext.drew ?_ | refine Ext.trans ?_ (by assumption)))
              clear hK K
              refine wpAnyH_take (i := 7) (oi := ?o2x7) (v := ?v2x7) ?hi2x7 (by kernel_rfl) ?hf2x7 ?hr2x7 (fun _ _ _ h => h) ?hy2x7 (by assumption) ?rest2x7
              case hi2x7 => (simp only [List.getElem?_toArray, List.getElem?_cons_succ, List.getElem?_cons_zero]; exact rfl)
              case hf2x7 => kernel_rfl
              case hr2x7 => kernel_rfl
              case hy2x7 => (refine Or.inl ⟨by rfl, ?_⟩; intro w hSw; (try dsimp only at hSw); go_simp; try with_reducible rfl)
              simp only [put_mk, List.set_cons_succ, List.set_cons_zero]
              refine wpAnyH_take (i := 8) (oi := ?o2x8) (v := ?v2x8) ?hi2x8 (by kernel_rfl) ?hf2x8 ?hr2x8 (fun _ _ _ h => h) ?hy2x8 (by assumption) ?rest2x8
              case hi2x8 => (simp only [List.getElem?_toArray, List.getElem?_cons_succ, List.getElem?_cons_zero]; exact rfl)
              case hf2x8 => kernel_rfl
              case hr2x8 => kernel_rfl
              case hy2x8 => (refine Or.inl ⟨by rfl, ?_⟩; intro w hSw; (try dsimp only at hSw); go_simp; try with_reducible rfl)
              simp only [put_mk, List.set_cons_succ, List.set_cons_zero]
              refine wpAnyH_take (i := 9) (oi := ?o2x9) (v := ?v2x9) ?hi2x9 (by kernel_rfl) ?hf2x9 ?hr2x9 (fun _ _ _ h => h) ?hy2x9 (by assumption) ?rest2x9
              case hi2x9 => (simp only [List.getElem?_toArray, List.getElem?_cons_succ, List.getElem?_cons_zero]; exact rfl)
              case hf2x9 => kernel_rfl
              case hr2x9 => kernel_rfl
              case hy2x9 => (refine Or.inl ⟨by rfl, ?_⟩; intro w hSw; (try dsimp only at hSw); go_simp; try with_reducible rfl)
              simp only [put_mk, List.set_cons_succ, List.set_cons_zero]
              refine wpAnyH_take (i := 10) (oi := ?o2x10) (v := ?v2x10) ?hi2x10 (by kernel_rfl) ?hf2x10 ?hr2x10 (fun _ _ _ h => h) ?hy2x10 (by assumption) ?rest2x10
              case hi2x10 => (simp only [List.getElem?_toArray, List.getElem?_cons_succ, List.getElem?_cons_zero]; exact rfl)
              case hf2x10 => kernel_rfl
              case hr2x10 => kernel_rfl
              case hy2x10 => (refine Or.inl ⟨by rfl, ?_⟩; intro w hSw; (try dsimp only at hSw); go_simp; try with_reducible rfl)
              simp only [put_mk, List.set_cons_succ, List.set_cons_zero]
              refine wpAnyH_take (i := 11) (oi := ?o2x11) (v := ?v2x11) ?hi2x11 (by kernel_rfl) ?hf2x11 ?hr2x11 (fun _ _ _ h => h) ?hy2x11 (by assumption) ?rest2x11
              case hi2x11 => (simp only [List.getElem?_toArray, List.getElem?_cons_succ, List.getElem?_cons_zero]; exact rfl)
              case hf2x11 => kernel_rfl
              case hr2x11 => kernel_rfl
              case hy2x11 => (refine Or.inl ⟨by rfl, ?_⟩; intro w hSw; (try dsimp only at hSw); go_simp; try with_reducible rfl)
              simp only [put_mk, List.set_cons_succ, List.set_cons_zero]
              refine wpAnyH_done (by kernel_rfl) ?_ _
              refine NoPanic.normal ?_
              clear e0 e1 f0 f1 wk wk2
              go_wp2
              go_ret
              exact ⟨ret_i HE7.out.symm, Hhx.out.trans hHeld⟩
            · have HE7 := hidA (HE6.out.trans (if_neg (by unfold stepBad; rw [hlp]; simpa using h12)))
              have h13 : ¬ (12 : Int) < n' := by omega
              clear hlp
              have wk := Hwk.out
              have wk2 := Hwk2.out
              go_upto_region 11 with fail
              refine wp_region_noPanic ?_
              refine wp_region_held_drew (S := fun w' => Ext w2 w') (by kernel_rfl) ?_ (fun hHeld => ?_)
              · (repeat (first | exact Ext.refl _ | assumption | refine Ext.setCell ?_ (by first | (simp; done) | (simp; omega)) _ | refine Ext.drewN ?_ _ | refine Ext.alloc ?_ _ | refine Ext.drew ?_ | refine Ext.trans ?_ (by assumption)))
              refine wpAnyH_take (i := 0) (oi := ?o3x0) (v := ?v3x0) ?hi3x0 (by kernel_rfl) ?hf3x0 ?hr3x0 (fun _ _ _ h => h) ?hy3x0 (by assumption) ?rest3x0
              case hi3x0 => (simp only [List.getElem?_toArray, List.getElem?_cons_zero]; exact rfl)
              case hf3x0 => kernel_rfl
              case hr3x0 => kernel_rfl
              case hy3x0 => (refine Or.inl ⟨by rfl, ?_⟩; intro w hSw; (try dsimp only at hSw); go_simp; try with_reducible rfl)
              simp only [put_mk, List.set_cons_succ, List.set_cons_zero]
              refine wpAnyH_take (i := 1) (oi := ?o3x1) (v := ?v3x1) ?hi3x1 (by kernel_rfl) ?hf3x1 ?hr3x1 (fun _ _ _ h => h) ?hy3x1 (by assumption) ?rest3x1
              case hi3x1 => (simp only [List.getElem?_toArray, List.getElem?_cons_succ, List.getElem?_cons_zero]; exact rfl)
              case hf3x1 => kernel_rfl
              case hr3x1 => kernel_rfl
              case hy3x1 => (refine Or.inl ⟨by rfl, ?_⟩; intro w hSw; (try dsimp only at hSw); go_simp; try with_reducible rfl)
              simp only [put_mk, List.set_cons_succ, List.set_cons_zero]
              refine wpAnyH_take (i := 2) (oi := ?o3x2) (v := ?v3x2) ?hi3x2 (by kernel_rfl) ?hf3x2 ?hr3x2 (fun _ _ _ h => h) ?hy3x2 (by assumption) ?rest3x2
              case hi3x2 => (simp only [List.getElem?_toArray, List.getElem?_cons_succ, List.getElem?_cons_zero]; exact rfl)
              case hf3x2 => kernel_rfl
              case hr3x2 => kernel_rfl
              case hy3x2 => (refine Or.inl ⟨by rfl, ?_⟩; intro w hSw; (try dsimp only at hSw); go_simp; try with_reducible rfl)
              simp only [put_mk, List.set_cons_succ, List.set_cons_zero]
              refine wpAnyH_take (i := 3) (oi := ?o3x3) (v := ?v3x3) ?hi3x3 (by kernel_rfl) ?hf3x3 ?hr3x3 (fun _ _ _ h => h) ?hy3x3 (by assumption) ?rest3x3
              case hi3x3 => (simp only [List.getElem?_toArray, List.getElem?_cons_succ, List.getElem?_cons_zero]; exact rfl)
              case hf3x3 => kernel_rfl
              case hr3x3 => kernel_rfl
              case hy3x3 => (refine Or.inl ⟨by rfl, ?_⟩; intro w hSw; (try dsimp only at hSw); go_simp; try with_reducible rfl)
              simp only [put_mk, List.set_cons_succ, List.set_cons_zero]
              refine wpAnyH_take (i := 4) (oi := ?o3x4) (v := ?v3x4) ?hi3x4 (by kernel_rfl) ?hf3x4 ?hr3x4 (fun _ _ _ h => h) ?hy3x4 (by assumption) ?rest3x4
              case hi3x4 => (simp only [List.getElem?_toArray, List.getElem?_cons_succ, List.getElem?_cons_zero]; exact rfl)
              case hf3x4 => kernel_rfl
              case hr3x4 => kernel_rfl
              case hy3x4 => (refine Or.inl ⟨by rfl, ?_⟩; intro w hSw; (try dsimp only at hSw); go_simp; try with_reducible rfl)
              simp only [put_mk, List.set_cons_succ, List.set_cons_zero]
              refine wpAnyH_take (i := 5) (oi := ?o3x5) (v := ?v3x5) ?hi3x5 (by kernel_rfl) ?hf3x5 ?hr3x5 (fun _ _ _ h => h) ?hy3x5 (by assumption) ?rest3x5
              case hi3x5 => (simp only [List.getElem?_toArray, List.getElem?_cons_succ, List.getElem?_cons_zero]; exact rfl)
              case hf3x5 => kernel_rfl
              case hr3x5 => kernel_rfl
              case hy3x5 => (refine Or.inl ⟨by rfl, ?_⟩; intro w hSw; (try dsimp only at hSw); go_simp; try with_reducible rfl)
              simp only [put_mk, List.set_cons_succ, List.set_cons_zero]
              refine wpAnyH_ready (rs := [6]) (by kernel_rfl) (by simp) ?_
              refine AllReadyH.cons (o := ?o3x6) ?hi3x6 (fun K hK => ?_) AllReadyH.nil
              case hi3x6 => (simp only [List.getElem?_toArray, List.getElem?_cons_succ, List.getElem?_cons_zero]; exact rfl)
              go_simp
              go_at_call 78; refine ((HBt _).out).mono ?_; rintro e w5 ⟨rfl, hx5⟩
              refine hK.out _ _ ?_ (fun hHeld => ?_)
              · (repeat (first | exact Ext.refl _ | assumption | refine Ext.setCell ?_ (by first | (simp; done) | (simp; omega)) _ | refine Ext.drewN ?_ _ | refine Ext.alloc ?_ _ | refine Ext.drew ?_ | refine Ext.trans ?_ (by assumption)))
              clear hK K
              refine wpAnyH_take (i := 7) (oi := ?o3x7) (v := ?v3x7) ?hi3x7 (by kernel_rfl) ?hf3x7 ?hr3x7 (fun _ _ _ h => h) ?hy3x7 (by assumption) ?rest3x7
              case hi3x7 => (simp only [List.getElem?_toArray, List.getElem?_cons_succ, List.getElem?_cons_zero]; exact rfl)
              case hf3x7 => kernel_rfl
              case hr3x7 => kernel_rfl
              case hy3x7 => (refine Or.inl ⟨by rfl, ?_⟩; intro w hSw; (try dsimp only at hSw); go_simp; try with_reducible rfl)
              simp only [put_mk, List.set_cons_succ, List.set_cons_zero]
              refine wpAnyH_take (i := 8) (oi := ?o3x8) (v := ?v3x8) ?hi3x8 (by kernel_rfl) ?hf3x8 ?hr3x8 (fun _ _ _ h => h) ?hy3x8 (by assumption) ?rest3x8
              case hi3x8 => (simp only [List.getElem?_toArray, List.getElem?_cons_succ, List.getElem?_cons_zero]; exact rfl)
              case hf3x8 => kernel_rfl
              case hr3x8 => kernel_rfl
              case hy3x8 => (refine Or.inl ⟨by rfl, ?_⟩; intro w hSw; (try dsimp only at hSw); go_simp; try with_reducible rfl)
              simp only [put_mk, List.set_cons_succ, List.set_cons_zero]
              refine wpAnyH_take (i := 9) (oi := ?o3x9) (v := ?v3x9) ?hi3x9 (by kernel_rfl) ?hf3x9 ?hr3x9 (fun _ _ _ h => h) ?hy3x9 (by assumption) ?rest3x9
              case hi3x9 => (simp only [List.getElem?_toArray, List.getElem?_cons_succ, List.getElem?_cons_zero]; exact rfl)
              case hf3x9 => kernel_rfl
              case hr3x9 => kernel_rfl
              case hy3x9 => (refine Or.inl ⟨by rfl, ?_⟩; intro w hSw; (try dsimp only at hSw); go_simp; try with_reducible rfl)
              simp only [put_mk, List.set_cons_succ, List.set_cons_zero]
              refine wpAnyH_take (i := 10) (oi := ?o3x10) (v := ?v3x10) ?hi3x10 (by kernel_rfl) ?hf3x10 ?hr3x10 (fun _ _ _ h => h) ?hy3x10 (by assumption) ?rest3x10
              case hi3x10 => (simp only [List.getElem?_toArray, List.getElem?_cons_succ, List.getElem?_cons_zero]; exact rfl)
              case hf3x10 => kernel_rfl
              case hr3x10 => kernel_rfl
              case hy3x10 => (refine Or.inl ⟨by rfl, ?_⟩; intro w hSw; (try dsimp only at hSw); go_simp; try with_reducible rfl)
              simp only [put_mk, List.set_cons_succ, List.set_cons_zero]
              refine wpAnyH_take (i := 11) (oi := ?o3x11) (v := ?v3x11) ?hi3x11 (by kernel_rfl) ?hf3x11 ?hr3x11 (fun _ _ _ h => h) ?hy3x11 (by assumption) ?rest3x11
              case hi3x11 => (simp only [List.getElem?_toArray, List.getElem?_cons_succ, List.getElem?_cons_zero]; exact rfl)
              case hf3x11 => kernel_rfl
              case hr3x11 => kernel_rfl
              case hy3x11 => (refine Or.inl ⟨by rfl, ?_⟩; intro w hSw; (try dsimp only at hSw); go_simp; try with_reducible rfl)
              simp only [put_mk, List.set_cons_succ, List.set_cons_zero]
              refine wpAnyH_done (by kernel_rfl) ?_ _
              refine NoPanic.normal ?_
              clear e0 e1 f0 f1 wk wk2
              go_wp2
              go_roundw
              case rel => exact ⟨k + 1, by omega, by go_num, HE7.out, fun _ => by rw [Nat.add_sub_cancel, hpp2.out]; exact Hb.out, Hhx.out.trans hHeld⟩
              case measure => simp [intOf]; omega
      · have HE5 := hidA (HE4.out.trans (if_pos hb))
        rw [hb] at HP1
        simp only [if_true] at HP1
        have HP2 := hidA HP1
        clear hb HE4 HP1
        go_wp2_with fail
        refine (HP2.out _ (by repeat (first | exact Ext.refl _ | assumption | refine Ext.setCell ?_ (by first | (simp; done) | (simp; omega)) _ | refine Ext.drewN ?_ _ | refine Ext.alloc ?_ _ | refine Ext.drew ?_ | refine Ext.trans ?_ (by assumption)))).mono ?_
        rintro e w2 ⟨rfl, hx2⟩
        go_wp2
        go_ret
        exact ⟨ret_i HE5.out.symm, (by repeat (first | exact Ext.refl _ | assumption | refine Ext.setCell ?_ (by first | (simp; done) | (simp; omega)) _ | refine Ext.drewN ?_ _ | refine Ext.alloc ?_ _ | refine Ext.drew ?_ | refine Ext.trans ?_ (by assumption)))⟩
    · have hkn2 : n = k := by omega
      subst hkn2
      have HE5 := hidA (show E = 0 from by rw [HEk.out, Nat.sub_self]; rfl)
      go_wp2
      go_ret
      exact ⟨ret_i HE5.out.symm, hx⟩
end Go.Proofs.Ytpgdinpckolfpaa

namespace Go.Proofs.Ytpgdinpckolfpaa
open Go.RowKit

theorem field_zero {x y w h : Int} {l : List Nat} (e : fieldE x y w h l = 0) : regE x y w h = 0 ∧ (l.length : Int) = w * h ∧ numE l = 0 := by
  unfold fieldE at e
  split at e
  · rename_i h1; exact absurd e h1
  · rename_i h1
    split at e
    · cases e
    · rename_i h2
      exact ⟨by simpa using h1, by simpa using h2, e⟩
theorem zero_f : valI 0 = 0 := by decide +kernel
theorem k10_f : valI 1149239296 = 2 ^ 159 := by decide +kernel
theorem outB_no {b : Nat} (hb : Fin b) (h : outB b = false) : Bd 10 b ∧ 0 ≤ valI b ∧ valI b ≤ 2 ^ 159 := by
  unfold outB at h
  rw [lt_val hb (by unfold Fin; omega), gt_val hb (by unfold Fin; omega), zero_f, k10_f] at h
  simp only [Bool.or_eq_false_iff, decide_eq_false_iff_not] at h
  refine ⟨?_, by omega, by omega⟩
  rw [bd_valI (by omega)]
  omega
set_option maxRecDepth 10000 in
theorem grnd_ok {X Y W H : Int} {lf : List Nat} {gr wt br de : Nat} {sp : Int} {m : Nat} {X' Y' W' H' : Int} {l : List Nat} {C : Option Addr} {w : World} (h : grndE X Y W H lf gr wt br de sp m X' Y' W' H' l = 0) (hC : CoP w C m X' Y' W' H' l) :
    ∃ (Wn Hn : Nat) (R : RlR), W = Wn ∧ H = Hn ∧ Reg X Y Wn Hn ∧ lf.length = Wn * Hn ∧ (∀ j, j < Wn * Hn → Bd 20 (lf.getD j 0)) ∧ R.gr = gr ∧ R.wt = wt ∧ R.br = br ∧ R.de = de ∧ (R.sp : Int) = sp ∧ RlOk R (Wn * Hn) ∧ CoR w C m R.co ∧ m ≤ 1 := by
  have hm := grnd_m h
  unfold grndE at h
  split at h
  · rename_i h1; exact absurd h h1
  · rename_i hf
    have hf' : fieldE X Y W H lf = 0 := by simpa using hf
    split at h
    · rename_i h1; exact absurd h h1
    · rename_i hr
      have hr' : rulesE gr wt br de sp m X' Y' W' H' l = 0 := by simpa using hr
      split at h
      · cases h
      · rename_i hp
        obtain ⟨f1, f2, f3⟩ := field_zero hf'
        obtain ⟨Wn, Hn, rfl, rfl, hg⟩ := Reg.of_zero f1
        have hlen : lf.length = Wn * Hn := by have h9 : (lf.length : Int) = ((Wn * Hn : Nat) : Int) := by rw [f2, Int.natCast_mul]
                                              omega
        have hn4 : ∀ b ∈ lf, Bd 20 b := fun b hb => hgt_bd ((numE_zero f3).2 b hb)
        unfold rulesE at hr'
        split at hr'
        · rename_i h1; exact absurd hr' h1
        · rename_i hnm
          have hnm' : numE [gr, wt, br, de] = 0 := by simpa using hnm
          have hb4 := fun b hb => hgt_bd ((numE_zero hnm').2 b hb)
          have b1 := hb4 gr (by simp)
          have b2 := hb4 wt (by simp)
          have b3 := hb4 br (by simp)
          have b4 := hb4 de (by simp)
          split at hr'
          · cases hr'
          · rename_i ho
            split at hr'
            · cases hr'
            · rename_i hbr
              have o1 := outB_no (bd_Fin b1 (by omega)) (by simpa using fun e => ho (.inl e))
              have o2 := outB_no (bd_Fin b2 (by omega)) (by simpa using fun e => ho (.inr (.inl e)))
              have o4 := outB_no (bd_Fin b4 (by omega)) (by simpa using fun e => ho (.inr (.inr e)))
              have hlt : lt br 1065353216 = false := by simpa using fun e => hbr (.inl e)
              have hgt : gt br 1149239296 = false := by simpa using fun e => hbr (.inr (.inl e))
              have hsp : spanB sp = false := by simpa using fun e => hbr (.inr (.inr e))
              rw [lt_val (bd_Fin b3 (by omega)) (by unfold Fin; omega), one_val] at hlt
              rw [gt_val (bd_Fin b3 (by omega)) (by unfold Fin; omega), k10_f] at hgt
              simp only [decide_eq_false_iff_not] at hlt hgt
              have hs : 0 ≤ sp ∧ sp ≤ 12 := by
                unfold spanB at hsp
                simp at hsp
                omega
              have hco : m = 1 → l.length = Wn * Hn ∧ ∀ j, j < Wn * Hn → Bd 10 (l.getD j 0) ∧ 0 ≤ valI (l.getD j 0) := fun hm1 => by
                unfold coE at hr'
                rw [if_neg (by omega), if_neg (by omega)] at hr'
                split at hr'
                · rename_i h1; exact absurd hr' h1
                · rename_i hf2
                  split at hr'
                  · cases hr'
                  · rename_i hany
                    obtain ⟨g1, g2, g3⟩ := field_zero (show fieldE X' Y' W' H' l = 0 by simpa using hf2)
                    have hreg : X' = X ∧ Y' = Y ∧ W' = (Wn : Int) ∧ H' = (Hn : Int) := by
                      rcases Classical.em (X' = X ∧ Y' = Y ∧ W' = (Wn : Int) ∧ H' = (Hn : Int)) with h8 | h8
                      · exact h8
                      · exact absurd ⟨hm1, h8⟩ hp
                    obtain ⟨_, _, e3, e4⟩ := hreg
                    have hl2 : l.length = Wn * Hn := by
                      have h9 : (l.length : Int) = ((Wn * Hn : Nat) : Int) := by rw [g2, e3, e4, Int.natCast_mul]
                      omega
                    refine ⟨hl2, fun j hj => ?_⟩
                    have hjl : j < l.length := by rw [hl2]; exact hj
                    have hmem : l.getD j 0 ∈ l := by
                      rw [show l.getD j 0 = l[j] by simp [List.getD_eq_getElem?_getD, hjl]]
                      exact List.getElem_mem hjl
                    have hb5 := hgt_bd ((numE_zero g3).2 _ hmem)
                    have h9 := outB_no (bd_Fin hb5 (by omega)) (by
                      cases he : outB (l.getD j 0) with
                      | false => rfl
                      | true => exact absurd (List.any_eq_true.2 ⟨_, hmem, he⟩) hany)
                    exact ⟨h9.1, h9.2.1⟩
              refine ⟨Wn, Hn, ⟨gr, wt, br, de, sp.toNat, if m = 1 then some l else none⟩, rfl, rfl, hg, hlen, fun j hj => ?_, rfl, rfl, rfl, rfl, by show ((sp.toNat : Nat) : Int) = sp; omega, ?_, ?_, hm⟩
              · have hjl : j < lf.length := by rw [hlen]; exact hj
                refine hn4 _ ?_
                rw [show lf.getD j 0 = lf[j] by simp [List.getD_eq_getElem?_getD, hjl]]
                exact List.getElem_mem hjl
              · constructor
                · exact b1
                · exact o1.2.2
                · exact o2.1
                · exact o2.2.1
                · show Bd 10 br
                  rw [bd_valI (by omega)]
                  omega
                · show 2 ^ 149 ≤ valI br
                  omega
                · exact o4.1
                · exact o4.2.1
                · show sp.toNat ≤ 12
                  omega
                · intro l' hl'
                  dsimp only at hl'
                  split at hl'
                  · rename_i hm1
                    injection hl' with e
                    rw [← e]
                    exact (hco hm1).1
                  · cases hl'
                · intro l' hl'
                  dsimp only at hl'
                  split at hl'
                  · rename_i hm1
                    injection hl' with e
                    rw [← e]
                    exact (hco hm1).2
                  · cases hl'
              · show CoR w C m (if m = 1 then some l else none)
                by_cases hm1 : m = 1
                · rw [if_pos hm1]
                  obtain ⟨B, c', q1, q2, _⟩ := hC.one hm1
                  exact ⟨hm1, X', Y', W', H', B, c', q1, q2⟩
                · rw [if_neg hm1]
                  show m = 0
                  omega
end Go.Proofs.Ytpgdinpckolfpaa

namespace Go.Proofs.Ytpgdinpckolfpaa
open Go.RowKit
attribute [local go_sem ↓] Go.wp_at_zero Go.wp_at_succ
attribute [local go_sem] run_store_float

/-- whether a place lies outside of a region -/
def outP (X Y W H : Int) (p : Int × Int) : Bool := !decide (InR X Y W H p.1 p.2)
theorem outP_in {X Y W H : Int} {p : Int × Int} (h : outP X Y W H p = false) : InR X Y W H p.1 p.2 := by
  unfold outP at h
  simpa using h
theorem insE_one (X Y W H x y : Int) : insE X Y W H [(x, y)] = if outP X Y W H (x, y) = true then 5 else 0 := by
  unfold insE outP
  by_cases h : InR X Y W H x y <;> simp [h]
theorem enters_onField : ∀ args w, (callFunc 115 args).run Try.prog w = .ok (.enter 115 args) w := enters_of Try.func115 (by kernel_rfl) rfl
set_option maxRecDepth 100000 in
set_option maxHeartbeats 1600000 in
theorem onField1_any (X Y W H : Int) (A : Option Addr) (n c hf : Nat) (x y : Int) (w : World) (hr : RegOk X Y W H) (kF : Bk w hf 26 #[.int .i64 X, .int .i64 Y, .int .i64 W, .int .i64 H, .slice A n c]) :
    Calls Try.prog 115 #[.agg #[.int .i64 x, .int .i64 y], .pointer (some ⟨hf, 0, none⟩)] w fun e w' => e = .returned (.int .i64 (if outP X Y W H (x, y) = true then 5 else 0)) ∧ Ext w w' := by
  have HI := fun (w' : World) (B : Option Addr) (h : Rd w' B (ptv [(x, y)])) => hidA (inside_any X Y W H A B n c 1 1 [(x, y)] w' hr rfl h (by omega))
  rw [insE_one] at HI
  generalize (if outP X Y W H (x, y) = true then (5 : Int) else 0) = E at *
  clear hr
  go_enter Try.func115, Try.ntmps115
  go_upto_region 1 with fail
  have kF1 := kF.alloc (.cells #[.int .i64 x, .int .i64 y] 32)
  have kP : Bk (w.alloc (.cells #[.int .i64 x, .int .i64 y] 32)) w.heap.size 32 #[.int .i64 x, .int .i64 y] := Bk.new' rfl
  have hx0 : Ext w (w.alloc (.cells #[.int .i64 x, .int .i64 y] 32)) := (Ext.refl w).alloc _
  generalize w.alloc (.cells #[.int .i64 x, .int .i64 y] 32) = w0 at *
  generalize w.heap.size = hp at *
  have f0 := kF1.cell 0
  have f1 := kF1.cell 1
  have f2 := kF1.cell 2
  have f3 := kF1.cell 3
  have f4 := kF1.cell 4
  have p0 := kP.cell 0
  have p1 := kP.cell 1
  clear kF kF1 kP
  go_wp2_with (go_at_call 64; refine ((HI _ _ (Rd.new rfl rfl)).out).mono ?_; rintro e w2 ⟨rfl, hx2⟩)
  go_ret
  exact ⟨rfl, hx0.trans (by repeat (first | exact Ext.refl _ | assumption | refine Ext.setCell ?_ (by first | (simp; done) | (simp; omega)) _ | refine Ext.drewN ?_ _ | refine Ext.alloc ?_ _ | refine Ext.drew ?_ | refine Ext.trans ?_ (by assumption)))⟩
set_option maxRecDepth 100000 in
set_option maxHeartbeats 3200000 in
theorem onField_any (X Y W H : Int) (A : Option Addr) (n c : Nat) (lf : List Nat) (B : Option Addr) (q d : Nat) (l : List (Int × Int)) (w : World) (hn : lf.length = n) (hV : Rd w A (flt lf)) (hb : n ≤ 140737488351232) (hq : l.length = q) (hP : Rd w B (ptv l)) :
    Calls Try.prog 84 #[.agg #[.int .i64 X, .int .i64 Y, .int .i64 W, .int .i64 H, .slice A n c], .slice B q d] w fun e w' => e = .returned (.int .i64 (if fieldE X Y W H lf ≠ 0 then fieldE X Y W H lf else wayE (outP X Y W H) l)) ∧ Ext w w' := by
  have HC := fun (w' : World) (h : Ext w w') => hidA (check_any X Y W H A n c lf w' hn (hV.ext h) hb)
  by_cases h0 : fieldE X Y W H lf = 0
  · rw [if_neg (by simpa using h0)]
    rw [h0] at HC
    obtain ⟨z1, _, _⟩ := field_zero h0
    obtain ⟨Wn, Hn, rfl, rfl, hr⟩ := Reg.of_zero z1
    have HW := fun (w0 : World) (h : Ext w w0) (hf : Nat) (kF : Bk w0 hf 26 #[.int .i64 X, .int .i64 Y, .int .i64 (Wn : Int), .int .i64 (Hn : Int), .slice A n c]) => hidA (checkWay_any 115 #[.pointer (some ⟨hf, 0, none⟩)] enters_onField (outP X Y Wn Hn) B q d l w0 (fun p hp => by
      have h1 := outP_in hp
      unfold InR at h1
      have := hr.x1
      have := hr.x2
      have := hr.y1
      have := hr.y2
      omega) (fun x y w' hw => onField1_any X Y Wn Hn A n c hf x y w' hr.ok (kF.ext hw)) hq (hP.ext h))
    generalize wayE (outP X Y Wn Hn) l = E at *
    clear h0 hn hV hb hq hP hr z1
    go_enter Try.func84, Try.ntmps84
    go_upto_region 1 with fail
    have kF : Bk (w.alloc (.cells #[.int .i64 X, .int .i64 Y, .int .i64 (Wn : Int), .int .i64 (Hn : Int), .slice A n c] 26)) w.heap.size 26 #[.int .i64 X, .int .i64 Y, .int .i64 (Wn : Int), .int .i64 (Hn : Int), .slice A n c] := Bk.new' rfl
    have hx0 := (Ext.refl w).alloc (.cells #[.int .i64 X, .int .i64 Y, .int .i64 (Wn : Int), .int .i64 (Hn : Int), .slice A n c] 26)
    generalize w.alloc (.cells #[.int .i64 X, .int .i64 Y, .int .i64 (Wn : Int), .int .i64 (Hn : Int), .slice A n c] 26) = w0 at *
    generalize w.heap.size = hf at *
    have f0 := kF.cell 0
    have f1 := kF.cell 1
    have f2 := kF.cell 2
    have f3 := kF.cell 3
    have f4 := kF.cell 4
    go_wp2_with (first | (go_at_call 103; refine ((HC _ hx0).out).mono ?_; rintro e w1 ⟨rfl, hx1⟩; have kF1 := kF.ext hx1; have HW1 := HW w1 (hx0.trans hx1) hf kF1) | (go_at_call 80; refine (HW1.out).mono ?_; rintro e w2 ⟨rfl, hx2⟩))
    go_ret
    exact ⟨rfl, hx0.trans (hx1.trans hx2)⟩
  · rw [if_pos h0]
    have hne : (fieldE X Y W H lf != 0) = true := by simpa using h0
    generalize fieldE X Y W H lf = E at *
    clear h0 hn hV hb hq hP
    go_enter Try.func84, Try.ntmps84
    go_upto_region 1 with fail
    have kF : Bk (w.alloc (.cells #[.int .i64 X, .int .i64 Y, .int .i64 W, .int .i64 H, .slice A n c] 26)) w.heap.size 26 #[.int .i64 X, .int .i64 Y, .int .i64 W, .int .i64 H, .slice A n c] := Bk.new' rfl
    have hx0 := (Ext.refl w).alloc (.cells #[.int .i64 X, .int .i64 Y, .int .i64 W, .int .i64 H, .slice A n c] 26)
    generalize w.alloc (.cells #[.int .i64 X, .int .i64 Y, .int .i64 W, .int .i64 H, .slice A n c] 26) = w0 at *
    generalize w.heap.size = hf at *
    have f0 := kF.cell 0
    have f1 := kF.cell 1
    have f2 := kF.cell 2
    have f3 := kF.cell 3
    have f4 := kF.cell 4
    clear kF
    go_wp2_with (go_at_call 103; refine ((HC _ hx0).out).mono ?_; rintro e w1 ⟨rfl, hx1⟩)
    go_ret
    exact ⟨rfl, hx0.trans hx1⟩
end Go.Proofs.Ytpgdinpckolfpaa

namespace Go.Proofs.Ytpgdinpckolfpaa
open Go.RowKit
attribute [local go_sem ↓] Go.wp_at_zero Go.wp_at_succ
attribute [local go_sem] run_store_float

theorem outP_bd {X Y : Int} {Wn Hn : Nat} {p : Int × Int} (hr : Reg X Y Wn Hn) (h : outP X Y Wn Hn p = false) : -4194304 ≤ p.1 ∧ p.1 ≤ 4194304 ∧ -4194304 ≤ p.2 ∧ p.2 ≤ 4194304 := by
  have h1 := outP_in h
  unfold InR at h1
  have := hr.x1
  have := hr.x2
  have := hr.y1
  have := hr.y2
  omega
theorem outP_far {X Y : Int} {Wn Hn : Nat} {px py : Int} (hr : Reg X Y Wn Hn) (h : ¬ (-4194304 ≤ px ∧ px ≤ 4194304 ∧ -4194304 ≤ py ∧ py ≤ 4194304)) : outP X Y Wn Hn (px, py) = true := by
  cases hb : outP X Y Wn Hn (px, py)
  · exact absurd (outP_bd hr hb) h
  · rfl
/-- a place that is too far, or not in a region of whatever numbers -/
def outG (X Y W H : Int) (p : Int × Int) : Bool := !(decide (-4194304 ≤ p.1 ∧ p.1 ≤ 4194304 ∧ -4194304 ≤ p.2 ∧ p.2 ≤ 4194304) && hasB X Y W H p.1 p.2)
theorem outG_bd {X Y W H : Int} {p : Int × Int} (h : outG X Y W H p = false) : -4194304 ≤ p.1 ∧ p.1 ≤ 4194304 ∧ -4194304 ≤ p.2 ∧ p.2 ≤ 4194304 := by
  unfold outG at h
  simp at h
  omega
theorem outG_far {X Y W H : Int} {px py : Int} (h : ¬ (-4194304 ≤ px ∧ px ≤ 4194304 ∧ -4194304 ≤ py ∧ py ≤ 4194304)) : outG X Y W H (px, py) = true := by
  cases hb : outG X Y W H (px, py)
  · exact absurd (outG_bd hb) h
  · rfl
theorem outG_near {X Y W H : Int} {px py : Int} (c1 : ¬ px < -4194304) (c2 : ¬ 4194304 < px) (c3 : ¬ py < -4194304) (c4 : ¬ 4194304 < py) : hasB X Y W H px py = !outG X Y W H (px, py) := by
  unfold outG
  rw [show (decide (-4194304 ≤ px ∧ px ≤ 4194304 ∧ -4194304 ≤ py ∧ py ≤ 4194304)) = true from decide_eq_true (by omega)]
  simp
theorem outG_P {X Y : Int} {Wn Hn : Nat} (hr : Reg X Y Wn Hn) : outG X Y Wn Hn = outP X Y Wn Hn := by
  funext p
  obtain ⟨px, py⟩ := p
  by_cases h : -4194304 ≤ px ∧ px ≤ 4194304 ∧ -4194304 ≤ py ∧ py ≤ 4194304
  · have h1 := outG_near (X := X) (Y := Y) (W := Wn) (H := Hn) (px := px) (py := py) (by omega) (by omega) (by omega) (by omega)
    have h2 : hasB X Y Wn Hn px py = !outP X Y Wn Hn (px, py) := by rw [hasB_ok hr.ok]; unfold outP; simp
    rw [h1] at h2
    simpa using h2
  · rw [outG_far h, outP_far hr h]
set_option maxRecDepth 100000 in
set_option maxHeartbeats 6400000 in
theorem WayErrorG_any (X Y W H : Int) (F : Option Addr) (N cf hf : Nat) (A : Option Addr) (n c : Nat) (l : List (Int × Int)) (w : World) (kF : Bk w hf 26 #[.int .i64 X, .int .i64 Y, .int .i64 W, .int .i64 H, .slice F N cf]) (hn : l.length = n) (hV : Rd w A (ptv l)) (hb7 : n ≤ 140737488351232) :
    Calls Try.prog 39 #[.pointer (some ⟨hf, 0, none⟩), .slice A n c] w fun e w' => e = .returned (.int .i64 (wayE (outG X Y W H) l)) ∧ Ext w w' := by
  have HnL := hidA hn
  have hE : Hid (wayE (outG X Y W H) l = if n = 0 then 10 else if 65536 < n then 4 else wayI (outG X Y W H) l 0 n) := by show _ = _; unfold wayE; rw [hn]
  generalize wayE (outG X Y W H) l = E at *
  clear hn
  go_enter Try.func39, Try.ntmps39
  by_cases h0 : n = 0
  · have HE2 := hidA (hE.out.trans (if_pos h0))
    clear hE
    subst h0
    go_wp2
    go_ret
    exact ⟨ret_i HE2.out.symm, Ext.refl _⟩
  have h0' : ¬ (n : Int) = 0 := by omega
  by_cases h6 : 65536 < n
  · have HE2 := hidA ((hE.out.trans (if_neg h0)).trans (if_pos h6))
    have h6' : (65536 : Int) < n := by omega
    clear hE
    go_wp2
    go_ret
    exact ⟨ret_i HE2.out.symm, Ext.refl _⟩
  have HE2 := hidA ((hE.out.trans (if_neg h0)).trans (if_neg h6))
  have h6' : ¬ (65536 : Int) < n := by omega
  clear hE
  have h65 : n ≤ 65536 := by omega
  go_upto_region 6 with fail
  go_loopw [17] (fun s17 wr => ∃ k : Nat, k ≤ n ∧ s17 = .int .i64 k ∧ E = wayI (outG X Y W H) l k (n - k) ∧ (0 < k → (outG X Y W H) (l.getD (k - 1) (0, 0)) = false) ∧ Ext w wr) (fun s17 _ => n - (intOf s17).toNat)
  case atStart => exact ⟨0, Nat.zero_le _, rfl, by rw [HE2.out]; rfl, fun h => by omega, Ext.refl _⟩
  case round =>
    obtain ⟨k, hk, rfl, hEk, hprev, hx⟩ := hrel
    have HEk := hidA hEk
    have Hprev := hidA hprev
    clear hEk hprev
    by_cases hkn : k < n
    · have hkl : k < l.length := by have := HnL.out; omega
      obtain ⟨ad, rfl, hbk, d0, d1⟩ := pt_at (hV.ext hx) hkl
      have HE3 := hidA (HEk.out.trans (wayI_step hkn))
      have i0 : (0 : Int) ≤ k := by omega
      have i1 : (k : Int) < n := by omega
      obtain ⟨px, py, hpp⟩ : ∃ px py, l.getD k (0, 0) = (px, py) := ⟨_, _, rfl⟩
      have hpp2 := hidA hpp
      rw [hpp] at d0 d1
      have HE4 := hidA (show E = if (outG X Y W H) (px, py) = true then 5 else if 0 < k ∧ stepBad (l.getD (k - 1) (0, 0)) (px, py) = true then 2 else wayI (outG X Y W H) l (k + 1) (n - (k + 1)) from by rw [HE3.out, hpp])
      clear hpp HE3 HEk
      dsimp only at d0 d1
      go_upto_region 8 with fail
      have kP : Bk (wr.alloc (.cells #[.int .i64 px, .int .i64 py] 32)) wr.heap.size 32 #[.int .i64 px, .int .i64 py] := Bk.new' rfl
      have hx1 := hx.alloc (.cells #[.int .i64 px, .int .i64 py] 32)
      clear d0 d1
      generalize wr.alloc (.cells #[.int .i64 px, .int .i64 py] 32) = w1 at *
      generalize wr.heap.size = ha at *
      have p0 := kP.cell 0
      have p1 := kP.cell 1
      have kF1 := kF.ext hx1
      rcases (by omega : px < -4194304 ∨ (¬ px < -4194304 ∧ 4194304 < px) ∨ (¬ px < -4194304 ∧ ¬ 4194304 < px ∧ py < -4194304) ∨ (¬ px < -4194304 ∧ ¬ 4194304 < px ∧ ¬ py < -4194304 ∧ 4194304 < py) ∨ (¬ px < -4194304 ∧ ¬ 4194304 < px ∧ ¬ py < -4194304 ∧ ¬ 4194304 < py)) with c1 | ⟨c1, c2⟩ | ⟨c1, c2, c3⟩ | ⟨c1, c2, c3, c4⟩ | ⟨c1, c2, c3, c4⟩
      case inr.inr.inr.inr =>
        have HHa := fun (w : World) => hidA (has_any X Y W H px py w)
        have hbe : hasB X Y W H px py = !outG X Y W H (px, py) := outG_near c1 c2 c3 c4
        rw [hbe] at HHa
        have d1 : decide (px < -4194304) = false := decide_eq_false c1
        have d2 : decide (4194304 < px) = false := decide_eq_false c2
        have d3 : decide (py < -4194304) = false := decide_eq_false c3
        have d4 : decide (4194304 < py) = false := decide_eq_false c4
        have q0 : ∀ w', Ext w1 w' → w'.cell? ⟨ha, 0, none⟩ = some (.int .i64 px) := fun w' h => (kP.ext h).cell 0
        have q1 : ∀ w', Ext w1 w' → w'.cell? ⟨ha, 1, none⟩ = some (.int .i64 py) := fun w' h => (kP.ext h).cell 1
        have g0 : ∀ w', Ext w1 w' → w'.cell? ⟨hf, 0, none⟩ = some (.int .i64 X) := fun w' h => (kF1.ext h).cell 0
        have g1 : ∀ w', Ext w1 w' → w'.cell? ⟨hf, 1, none⟩ = some (.int .i64 Y) := fun w' h => (kF1.ext h).cell 1
        have g2 : ∀ w', Ext w1 w' → w'.cell? ⟨hf, 2, none⟩ = some (.int .i64 W) := fun w' h => (kF1.ext h).cell 2
        have g3 : ∀ w', Ext w1 w' → w'.cell? ⟨hf, 3, none⟩ = some (.int .i64 H) := fun w' h => (kF1.ext h).cell 3
        cases hb : outG X Y W H (px, py)
        · rw [hb] at HHa
          have HE5 := hidA (HE4.out.trans (if_neg (by rw [hb]; decide)))
          have Hb := hidA hb
          have hpb := outG_bd hb
          clear hb HE4 hbe p0 p1
          refine wp_region_noPanic ?_
          refine wp_region_held_drew (S := fun w' => Ext w1 w') (by kernel_rfl) ?_ (fun hHeld => ?_)
          · (repeat (first | exact Ext.refl _ | assumption | refine Ext.setCell ?_ (by first | (simp; done) | (simp; omega)) _ | refine Ext.drewN ?_ _ | refine Ext.alloc ?_ _ | refine Ext.drew ?_ | refine Ext.trans ?_ (by assumption)))
          refine wpAnyH_take (i := 0) (oi := ?o1x0) (v := ?v1x0) ?hi1x0 (by kernel_rfl) ?hf1x0 ?hr1x0 (fun _ _ _ h => h) ?hy1x0 (by assumption) ?rest1x0
          case hi1x0 => (simp only [List.getElem?_toArray, List.getElem?_cons_zero]; exact rfl)
          case hf1x0 => kernel_rfl
          case hr1x0 => kernel_rfl
          case hy1x0 => (refine Or.inl ⟨by rfl, ?_⟩; intro w hSw; (try dsimp only at hSw); go_simp; try with_reducible rfl)
          simp only [put_mk, List.set_cons_succ, List.set_cons_zero]
          refine wpAnyH_take (i := 1) (oi := ?o1x1) (v := ?v1x1) ?hi1x1 (by kernel_rfl) ?hf1x1 ?hr1x1 (fun _ _ _ h => h) ?hy1x1 (by assumption) ?rest1x1
          case hi1x1 => (simp only [List.getElem?_toArray, List.getElem?_cons_succ, List.getElem?_cons_zero]; exact rfl)
          case hf1x1 => kernel_rfl
          case hr1x1 => kernel_rfl
          case hy1x1 => (refine Or.inl ⟨by rfl, ?_⟩; intro w hSw; (try dsimp only at hSw); go_simp; try with_reducible rfl)
          simp only [put_mk, List.set_cons_succ, List.set_cons_zero]
          refine wpAnyH_take (i := 2) (oi := ?o1x2) (v := ?v1x2) ?hi1x2 (by kernel_rfl) ?hf1x2 ?hr1x2 (fun _ _ _ h => h) ?hy1x2 (by assumption) ?rest1x2
          case hi1x2 => (simp only [List.getElem?_toArray, List.getElem?_cons_succ, List.getElem?_cons_zero]; exact rfl)
          case hf1x2 => kernel_rfl
          case hr1x2 => kernel_rfl
          case hy1x2 => (refine Or.inl ⟨by rfl, ?_⟩; intro w hSw; (try dsimp only at hSw); go_simp; try with_reducible rfl)
          simp only [put_mk, List.set_cons_succ, List.set_cons_zero]
          refine wpAnyH_take (i := 3) (oi := ?o1x3) (v := ?v1x3) ?hi1x3 (by kernel_rfl) ?hf1x3 ?hr1x3 (fun _ _ _ h => h) ?hy1x3 (by assumption) ?rest1x3
          case hi1x3 => (simp only [List.getElem?_toArray, List.getElem?_cons_succ, List.getElem?_cons_zero]; exact rfl)
          case hf1x3 => kernel_rfl
          case hr1x3 => kernel_rfl
          case hy1x3 => (refine Or.inl ⟨by rfl, ?_⟩; intro w hSw; (try dsimp only at hSw); go_simp; try with_reducible rfl)
          simp only [put_mk, List.set_cons_succ, List.set_cons_zero]
          refine wpAnyH_take (i := 4) (oi := ?o1x4) (v := ?v1x4) ?hi1x4 (by kernel_rfl) ?hf1x4 ?hr1x4 (fun _ _ _ h => h) ?hy1x4 (by assumption) ?rest1x4
          case hi1x4 => (simp only [List.getElem?_toArray, List.getElem?_cons_succ, List.getElem?_cons_zero]; exact rfl)
          case hf1x4 => kernel_rfl
          case hr1x4 => kernel_rfl
          case hy1x4 => (refine Or.inl ⟨by rfl, ?_⟩; intro w hSw; (try dsimp only at hSw); go_simp; try with_reducible rfl)
          simp only [put_mk, List.set_cons_succ, List.set_cons_zero]
          refine wpAnyH_take (i := 5) (oi := ?o1x5) (v := ?v1x5) ?hi1x5 (by kernel_rfl) ?hf1x5 ?hr1x5 (fun _ _ _ h => h) ?hy1x5 (by assumption) ?rest1x5
          case hi1x5 => (simp only [List.getElem?_toArray, List.getElem?_cons_succ, List.getElem?_cons_zero]; exact rfl)
          case hf1x5 => kernel_rfl
          case hr1x5 => kernel_rfl
          case hy1x5 => (refine Or.inl ⟨by rfl, ?_⟩; intro w hSw; (try dsimp only at hSw); go_simp; try with_reducible rfl)
          simp only [put_mk, List.set_cons_succ, List.set_cons_zero]
          refine wpAnyH_take (i := 6) (oi := ?o1x6) (v := ?v1x6) ?hi1x6 (by kernel_rfl) ?hf1x6 ?hr1x6 (fun _ _ _ h => h) ?hy1x6 (by assumption) ?rest1x6
          case hi1x6 => (simp only [List.getElem?_toArray, List.getElem?_cons_succ, List.getElem?_cons_zero]; exact rfl)
          case hf1x6 => kernel_rfl
          case hr1x6 => kernel_rfl
          case hy1x6 => (refine Or.inl ⟨by rfl, ?_⟩; intro w hSw; (try dsimp only at hSw); go_simp; try with_reducible rfl)
          simp only [put_mk, List.set_cons_succ, List.set_cons_zero]
          refine wpAnyH_take (i := 7) (oi := ?o1x7) (v := ?v1x7) ?hi1x7 (by kernel_rfl) ?hf1x7 ?hr1x7 (fun _ _ _ h => h) ?hy1x7 (by assumption) ?rest1x7
          case hi1x7 => (simp only [List.getElem?_toArray, List.getElem?_cons_succ, List.getElem?_cons_zero]; exact rfl)
          case hf1x7 => kernel_rfl
          case hr1x7 => kernel_rfl
          case hy1x7 => (refine Or.inl ⟨by rfl, ?_⟩; intro w hSw; (try dsimp only at hSw); go_simp; try with_reducible rfl)
          simp only [put_mk, List.set_cons_succ, List.set_cons_zero]
          refine wpAnyH_take (i := 8) (oi := ?o1x8) (v := ?v1x8) ?hi1x8 (by kernel_rfl) ?hf1x8 ?hr1x8 (fun _ _ _ h => h) ?hy1x8 (by assumption) ?rest1x8
          case hi1x8 => (simp only [List.getElem?_toArray, List.getElem?_cons_succ, List.getElem?_cons_zero]; exact rfl)
          case hf1x8 => kernel_rfl
          case hr1x8 => kernel_rfl
          case hy1x8 => (refine Or.inl ⟨by rfl, ?_⟩; intro w hSw; (try dsimp only at hSw); go_simp; try with_reducible rfl)
          simp only [put_mk, List.set_cons_succ, List.set_cons_zero]
          refine wpAnyH_take (i := 9) (oi := ?o1x9) (v := ?v1x9) ?hi1x9 (by kernel_rfl) ?hf1x9 ?hr1x9 (fun _ _ _ h => h) ?hy1x9 (by assumption) ?rest1x9
          case hi1x9 => (simp only [List.getElem?_toArray, List.getElem?_cons_succ, List.getElem?_cons_zero]; exact rfl)
          case hf1x9 => kernel_rfl
          case hr1x9 => kernel_rfl
          case hy1x9 => (refine Or.inl ⟨by rfl, ?_⟩; intro w hSw; (try dsimp only at hSw); go_simp; try with_reducible rfl)
          simp only [put_mk, List.set_cons_succ, List.set_cons_zero]
          refine wpAnyH_take (i := 10) (oi := ?o1x10) (v := ?v1x10) ?hi1x10 (by kernel_rfl) ?hf1x10 ?hr1x10 (fun _ _ _ h => h) ?hy1x10 (by assumption) ?rest1x10
          case hi1x10 => (simp only [List.getElem?_toArray, List.getElem?_cons_succ, List.getElem?_cons_zero]; exact rfl)
          case hf1x10 => kernel_rfl
          case hr1x10 => kernel_rfl
          case hy1x10 => (refine Or.inl ⟨by rfl, ?_⟩; intro w hSw; (try dsimp only at hSw); go_simp; try with_reducible rfl)
          simp only [put_mk, List.set_cons_succ, List.set_cons_zero]
          refine wpAnyH_take (i := 11) (oi := ?o1x11) (v := ?v1x11) ?hi1x11 (by kernel_rfl) ?hf1x11 ?hr1x11 (fun _ _ _ h => h) ?hy1x11 (by assumption) ?rest1x11
          case hi1x11 => (simp only [List.getElem?_toArray, List.getElem?_cons_succ, List.getElem?_cons_zero]; exact rfl)
          case hf1x11 => kernel_rfl
          case hr1x11 => kernel_rfl
          case hy1x11 => (refine Or.inl ⟨by rfl, ?_⟩; intro w hSw; (try dsimp only at hSw); go_simp; try with_reducible rfl)
          simp only [put_mk, List.set_cons_succ, List.set_cons_zero]
          refine wpAnyH_take (i := 12) (oi := ?o1x12) (v := ?v1x12) ?hi1x12 (by kernel_rfl) ?hf1x12 ?hr1x12 (fun _ _ _ h => h) ?hy1x12 (by assumption) ?rest1x12
          case hi1x12 => (simp only [List.getElem?_toArray, List.getElem?_cons_succ, List.getElem?_cons_zero]; exact rfl)
          case hf1x12 => kernel_rfl
          case hr1x12 => kernel_rfl
          case hy1x12 => (refine Or.inl ⟨by rfl, ?_⟩; intro w hSw; (try dsimp only at hSw); go_simp; try with_reducible rfl)
          simp only [put_mk, List.set_cons_succ, List.set_cons_zero]
          refine wpAnyH_take (i := 13) (oi := ?o1x13) (v := ?v1x13) ?hi1x13 (by kernel_rfl) ?hf1x13 ?hr1x13 (fun _ _ _ h => h) ?hy1x13 (by assumption) ?rest1x13
          case hi1x13 => (simp only [List.getElem?_toArray, List.getElem?_cons_succ, List.getElem?_cons_zero]; exact rfl)
          case hf1x13 => kernel_rfl
          case hr1x13 => kernel_rfl
          case hy1x13 => (refine Or.inl ⟨by rfl, ?_⟩; intro w hSw; (try dsimp only at hSw); go_simp; try with_reducible rfl)
          simp only [put_mk, List.set_cons_succ, List.set_cons_zero]
          refine wpAnyH_take (i := 14) (oi := ?o1x14) (v := ?v1x14) ?hi1x14 (by kernel_rfl) ?hf1x14 ?hr1x14 (fun _ _ _ h => h) ?hy1x14 (by assumption) ?rest1x14
          case hi1x14 => (simp only [List.getElem?_toArray, List.getElem?_cons_succ, List.getElem?_cons_zero]; exact rfl)
          case hf1x14 => kernel_rfl
          case hr1x14 => kernel_rfl
          case hy1x14 => (refine Or.inl ⟨by rfl, ?_⟩; intro w hSw; (try dsimp only at hSw); go_simp; try with_reducible rfl)
          simp only [put_mk, List.set_cons_succ, List.set_cons_zero]
          refine wpAnyH_take (i := 15) (oi := ?o1x15) (v := ?v1x15) ?hi1x15 (by kernel_rfl) ?hf1x15 ?hr1x15 (fun _ _ _ h => h) ?hy1x15 (by assumption) ?rest1x15
          case hi1x15 => (simp only [List.getElem?_toArray, List.getElem?_cons_succ, List.getElem?_cons_zero]; exact rfl)
          case hf1x15 => kernel_rfl
          case hr1x15 => kernel_rfl
          case hy1x15 => (refine Or.inl ⟨by rfl, ?_⟩; intro w hSw; (try dsimp only at hSw); go_simp; try with_reducible rfl)
          simp only [put_mk, List.set_cons_succ, List.set_cons_zero]
          refine wpAnyH_take (i := 16) (oi := ?o1x16) (v := ?v1x16) ?hi1x16 (by kernel_rfl) ?hf1x16 ?hr1x16 (fun _ _ _ h => h) ?hy1x16 (by assumption) ?rest1x16
          case hi1x16 => (simp only [List.getElem?_toArray, List.getElem?_cons_succ, List.getElem?_cons_zero]; exact rfl)
          case hf1x16 => kernel_rfl
          case hr1x16 => kernel_rfl
          case hy1x16 => (refine Or.inl ⟨by rfl, ?_⟩; intro w hSw; (try dsimp only at hSw); go_simp; try with_reducible rfl)
          simp only [put_mk, List.set_cons_succ, List.set_cons_zero]
          refine wpAnyH_take (i := 17) (oi := ?o1x17) (v := ?v1x17) ?hi1x17 (by kernel_rfl) ?hf1x17 ?hr1x17 (fun _ _ _ h => h) ?hy1x17 (by assumption) ?rest1x17
          case hi1x17 => (simp only [List.getElem?_toArray, List.getElem?_cons_succ, List.getElem?_cons_zero]; exact rfl)
          case hf1x17 => kernel_rfl
          case hr1x17 => kernel_rfl
          case hy1x17 => (refine Or.inl ⟨by rfl, ?_⟩; intro w hSw; (try dsimp only at hSw); go_simp; try with_reducible rfl)
          simp only [put_mk, List.set_cons_succ, List.set_cons_zero]
          refine wpAnyH_take (i := 18) (oi := ?o1x18) (v := ?v1x18) ?hi1x18 (by kernel_rfl) ?hf1x18 ?hr1x18 (fun _ _ _ h => h) ?hy1x18 (by assumption) ?rest1x18
          case hi1x18 => (simp only [List.getElem?_toArray, List.getElem?_cons_succ, List.getElem?_cons_zero]; exact rfl)
          case hf1x18 => kernel_rfl
          case hr1x18 => kernel_rfl
          case hy1x18 => (refine Or.inl ⟨by rfl, ?_⟩; intro w hSw; (try dsimp only at hSw); go_simp; try with_reducible rfl)
          simp only [put_mk, List.set_cons_succ, List.set_cons_zero]
          refine wpAnyH_take (i := 19) (oi := ?o1x19) (v := ?v1x19) ?hi1x19 (by kernel_rfl) ?hf1x19 ?hr1x19 (fun _ _ _ h => h) ?hy1x19 (by assumption) ?rest1x19
          case hi1x19 => (simp only [List.getElem?_toArray, List.getElem?_cons_succ, List.getElem?_cons_zero]; exact rfl)
          case hf1x19 => kernel_rfl
          case hr1x19 => kernel_rfl
          case hy1x19 => (refine Or.inl ⟨by rfl, ?_⟩; intro w hSw; (try dsimp only at hSw); go_simp; try with_reducible rfl)
          simp only [put_mk, List.set_cons_succ, List.set_cons_zero]
          refine wpAnyH_take (i := 20) (oi := ?o1x20) (v := ?v1x20) ?hi1x20 (by kernel_rfl) ?hf1x20 ?hr1x20 (fun _ _ _ h => h) ?hy1x20 (by assumption) ?rest1x20
          case hi1x20 => (simp only [List.getElem?_toArray, List.getElem?_cons_succ, List.getElem?_cons_zero]; exact rfl)
          case hf1x20 => kernel_rfl
          case hr1x20 => kernel_rfl
          case hy1x20 => (refine Or.inl ⟨by rfl, ?_⟩; intro w hSw; (try dsimp only at hSw); go_simp; try with_reducible rfl)
          simp only [put_mk, List.set_cons_succ, List.set_cons_zero]
          refine wpAnyH_take (i := 21) (oi := ?o1x21) (v := ?v1x21) ?hi1x21 (by kernel_rfl) ?hf1x21 ?hr1x21 (fun _ _ _ h => h) ?hy1x21 (by assumption) ?rest1x21
          case hi1x21 => (simp only [List.getElem?_toArray, List.getElem?_cons_succ, List.getElem?_cons_zero]; exact rfl)
          case hf1x21 => kernel_rfl
          case hr1x21 => kernel_rfl
          case hy1x21 => (refine Or.inl ⟨by rfl, ?_⟩; intro w hSw; (try dsimp only at hSw); go_simp; try with_reducible rfl)
          simp only [put_mk, List.set_cons_succ, List.set_cons_zero]
          refine wpAnyH_take (i := 22) (oi := ?o1x22) (v := ?v1x22) ?hi1x22 (by kernel_rfl) ?hf1x22 ?hr1x22 (fun _ _ _ h => h) ?hy1x22 (by assumption) ?rest1x22
          case hi1x22 => (simp only [List.getElem?_toArray, List.getElem?_cons_succ, List.getElem?_cons_zero]; exact rfl)
          case hf1x22 => kernel_rfl
          case hr1x22 => kernel_rfl
          case hy1x22 => (refine Or.inl ⟨by rfl, ?_⟩; intro w hSw; (try dsimp only at hSw); go_simp; try with_reducible rfl)
          simp only [put_mk, List.set_cons_succ, List.set_cons_zero]
          refine wpAnyH_take (i := 23) (oi := ?o1x23) (v := ?v1x23) ?hi1x23 (by kernel_rfl) ?hf1x23 ?hr1x23 (fun _ _ _ h => h) ?hy1x23 (by assumption) ?rest1x23
          case hi1x23 => (simp only [List.getElem?_toArray, List.getElem?_cons_succ, List.getElem?_cons_zero]; exact rfl)
          case hf1x23 => kernel_rfl
          case hr1x23 => kernel_rfl
          case hy1x23 => (refine Or.inl ⟨by rfl, ?_⟩; intro w hSw; (try dsimp only at hSw); go_simp; try with_reducible rfl)
          simp only [put_mk, List.set_cons_succ, List.set_cons_zero]
          refine wpAnyH_take (i := 24) (oi := ?o1x24) (v := ?v1x24) ?hi1x24 (by kernel_rfl) ?hf1x24 ?hr1x24 (fun _ _ _ h => h) ?hy1x24 (by assumption) ?rest1x24
          case hi1x24 => (simp only [List.getElem?_toArray, List.getElem?_cons_succ, List.getElem?_cons_zero]; exact rfl)
          case hf1x24 => kernel_rfl
          case hr1x24 => kernel_rfl
          case hy1x24 => (refine Or.inl ⟨by rfl, ?_⟩; intro w hSw; (try dsimp only at hSw); go_simp; try with_reducible rfl)
          simp only [put_mk, List.set_cons_succ, List.set_cons_zero]
          refine wpAnyH_take (i := 25) (oi := ?o1x25) (v := ?v1x25) ?hi1x25 (by kernel_rfl) ?hf1x25 ?hr1x25 (fun _ _ _ h => h) ?hy1x25 (by assumption) ?rest1x25
          case hi1x25 => (simp only [List.getElem?_toArray, List.getElem?_cons_succ, List.getElem?_cons_zero]; exact rfl)
          case hf1x25 => kernel_rfl
          case hr1x25 => kernel_rfl
          case hy1x25 => (refine Or.inl ⟨by rfl, ?_⟩; intro w hSw; (try dsimp only at hSw); go_simp; try with_reducible rfl)
          simp only [put_mk, List.set_cons_succ, List.set_cons_zero]
          refine wpAnyH_take (i := 26) (oi := ?o1x26) (v := ?v1x26) ?hi1x26 (by kernel_rfl) ?hf1x26 ?hr1x26 (fun _ _ _ h => h) ?hy1x26 (by assumption) ?rest1x26
          case hi1x26 => (simp only [List.getElem?_toArray, List.getElem?_cons_succ, List.getElem?_cons_zero]; exact rfl)
          case hf1x26 => kernel_rfl
          case hr1x26 => kernel_rfl
          case hy1x26 => (refine Or.inl ⟨by rfl, ?_⟩; intro w hSw; (try dsimp only at hSw); go_simp; try with_reducible rfl)
          simp only [put_mk, List.set_cons_succ, List.set_cons_zero]
          refine wpAnyH_take (i := 27) (oi := ?o1x27) (v := ?v1x27) ?hi1x27 (by kernel_rfl) ?hf1x27 ?hr1x27 (fun _ _ _ h => h) ?hy1x27 (by assumption) ?rest1x27
          case hi1x27 => (simp only [List.getElem?_toArray, List.getElem?_cons_succ, List.getElem?_cons_zero]; exact rfl)
          case hf1x27 => kernel_rfl
          case hr1x27 => kernel_rfl
          case hy1x27 => (refine Or.inl ⟨by rfl, ?_⟩; intro w hSw; (try dsimp only at hSw); go_simp; try with_reducible rfl)
          simp only [put_mk, List.set_cons_succ, List.set_cons_zero]
          refine wpAnyH_take (i := 28) (oi := ?o1x28) (v := ?v1x28) ?hi1x28 (by kernel_rfl) ?hf1x28 ?hr1x28 (fun _ _ _ h => h) ?hy1x28 (by assumption) ?rest1x28
          case hi1x28 => (simp only [List.getElem?_toArray, List.getElem?_cons_succ, List.getElem?_cons_zero]; exact rfl)
          case hf1x28 => kernel_rfl
          case hr1x28 => kernel_rfl
          case hy1x28 => (refine Or.inl ⟨by rfl, ?_⟩; intro w hSw; (try dsimp only at hSw); go_simp; try with_reducible rfl)
          simp only [put_mk, List.set_cons_succ, List.set_cons_zero]
          refine wpAnyH_take (i := 29) (oi := ?o1x29) (v := ?v1x29) ?hi1x29 (by kernel_rfl) ?hf1x29 ?hr1x29 (fun _ _ _ h => h) ?hy1x29 (by assumption) ?rest1x29
          case hi1x29 => (simp only [List.getElem?_toArray, List.getElem?_cons_succ, List.getElem?_cons_zero]; exact rfl)
          case hf1x29 => kernel_rfl
          case hr1x29 => kernel_rfl
          case hy1x29 => (refine Or.inl ⟨by rfl, ?_⟩; intro w hSw; (try dsimp only at hSw); go_simp; try with_reducible rfl)
          simp only [put_mk, List.set_cons_succ, List.set_cons_zero]
          refine wpAnyH_ready (rs := [30]) (by kernel_rfl) (by simp) ?_
          refine AllReadyH.cons (o := ?o1x30) ?hi1x30 (fun K hK => ?_) AllReadyH.nil
          case hi1x30 => (simp only [List.getElem?_toArray, List.getElem?_cons_succ, List.getElem?_cons_zero]; exact rfl)
          go_simp
          go_at_call 20; refine ((HHa _).out).mono ?_; rintro e wb ⟨rfl, hxb⟩
          refine hK.out _ _ ?_ (fun hHeld => ?_)
          · (repeat (first | exact Ext.refl _ | assumption | refine Ext.setCell ?_ (by first | (simp; done) | (simp; omega)) _ | refine Ext.drewN ?_ _ | refine Ext.alloc ?_ _ | refine Ext.drew ?_ | refine Ext.trans ?_ (by assumption)))
          clear hK K
          refine wpAnyH_take (i := 31) (oi := ?o1x31) (v := ?v1x31) ?hi1x31 (by kernel_rfl) ?hf1x31 ?hr1x31 (fun _ _ _ h => h) ?hy1x31 (by assumption) ?rest1x31
          case hi1x31 => (simp only [List.getElem?_toArray, List.getElem?_cons_succ, List.getElem?_cons_zero]; exact rfl)
          case hf1x31 => kernel_rfl
          case hr1x31 => kernel_rfl
          case hy1x31 => (refine Or.inl ⟨by rfl, ?_⟩; intro w hSw; (try dsimp only at hSw); go_simp; try with_reducible rfl)
          simp only [put_mk, List.set_cons_succ, List.set_cons_zero]
          refine wpAnyH_take (i := 32) (oi := ?o1x32) (v := ?v1x32) ?hi1x32 (by kernel_rfl) ?hf1x32 ?hr1x32 (fun _ _ _ h => h) ?hy1x32 (by assumption) ?rest1x32
          case hi1x32 => (simp only [List.getElem?_toArray, List.getElem?_cons_succ, List.getElem?_cons_zero]; exact rfl)
          case hf1x32 => kernel_rfl
          case hr1x32 => kernel_rfl
          case hy1x32 => (refine Or.inl ⟨by rfl, ?_⟩; intro w hSw; (try dsimp only at hSw); go_simp; try with_reducible rfl)
          simp only [put_mk, List.set_cons_succ, List.set_cons_zero]
          refine wpAnyH_take (i := 33) (oi := ?o1x33) (v := ?v1x33) ?hi1x33 (by kernel_rfl) ?hf1x33 ?hr1x33 (fun _ _ _ h => h) ?hy1x33 (by assumption) ?rest1x33
          case hi1x33 => (simp only [List.getElem?_toArray, List.getElem?_cons_succ, List.getElem?_cons_zero]; exact rfl)
          case hf1x33 => kernel_rfl
          case hr1x33 => kernel_rfl
          case hy1x33 => (refine Or.inl ⟨by rfl, ?_⟩; intro w hSw; (try dsimp only at hSw); go_simp; try with_reducible rfl)
          simp only [put_mk, List.set_cons_succ, List.set_cons_zero]
          refine wpAnyH_done (by kernel_rfl) ?_ _
          refine NoPanic.normal ?_
          have kP2 : Bk wb ha 32 #[.int .i64 px, .int .i64 py] := kP.ext hHeld
          have hx3 : Ext w wb := hx1.trans hHeld
          clear kP hx1 c1 c2 c3 c4 q0 q1 g0 g1 g2 g3 d1 d2 d3 d4 HHa kF1 hHeld
          generalize hwq : wb = w2 at *
          clear hwq
          by_cases hk0 : k = 0
          · subst hk0
            have HE6 := hidA (HE5.out.trans (if_neg (by omega)))
            clear HE5
            go_wp2
            go_roundw
            case rel => exact ⟨1, by omega, rfl, HE6.out, fun _ => by show (outG X Y W H) (l.getD 0 (0, 0)) = false; rw [hpp2.out]; exact Hb.out, hx3⟩
            case measure => simp [intOf]; omega
          · have hkl1 : k - 1 < l.length := by omega
            have hpq := outG_bd (Hprev.out (by omega))
            obtain ⟨qx, qy, hqq⟩ : ∃ qx qy, l.getD (k - 1) (0, 0) = (qx, qy) := ⟨_, _, rfl⟩
            rw [hqq] at hpq
            dsimp only at hpq hpb
            have HBt := fun (w : World) => hidA (Leap_any qx qy px py w (by omega) (by omega) (by omega) (by omega))
            have HE6 := hidA (show E = if stepBad (qx, qy) (px, py) = true then 2 else wayI (outG X Y W H) l (k + 1) (n - (k + 1)) from by rw [HE5.out, hqq]; simp [show 0 < k by omega])
            have e0 : ∀ w', Ext w2 w' → w'.cell? (ad.add ((k - 1) * 2)) = some (.int .i64 qx) := fun w' h => by
              obtain ⟨ad', e, _, d0, d1⟩ := pt_at (hV.ext (hx3.trans h)) hkl1
              injection e with e
              subst e
              rw [hqq] at d0
              exact d0
            have e1 : ∀ w', Ext w2 w' → w'.cell? ⟨(ad.add ((k - 1) * 2)).block, (ad.add ((k - 1) * 2)).off + 1, none⟩ = some (.int .i64 qy) := fun w' h => by
              obtain ⟨ad', e, _, d0, d1⟩ := pt_at (hV.ext (hx3.trans h)) hkl1
              injection e with e
              subst e
              rw [hqq] at d1
              exact d1
            have f0 : ∀ w', Ext w2 w' → w'.cell? ⟨ha, 0, none⟩ = some (.int .i64 px) := fun w' h => (kP2.ext h).cell 0
            have f1 : ∀ w', Ext w2 w' → w'.cell? ⟨ha, 1, none⟩ = some (.int .i64 py) := fun w' h => (kP2.ext h).cell 1
            have j0 : (0 : Int) ≤ ((k - 1 : Nat) : Int) := by omega
            have j1 : ((k - 1 : Nat) : Int) < n := by omega
            have hk0' : (0 : Int) < k := by omega
            have Hwk := hidA (show wrap64 ((k : Int) - 1) = ((k - 1 : Nat) : Int) by rw [IntWalk.wrap64_in _ ⟨by omega, by omega⟩]; omega)
            have Hwk2 := hidA (show IntKind.i64.wrap ((k : Int) - 1) = ((k - 1 : Nat) : Int) by rw [IntWalk.i64_in _ ⟨by omega, by omega⟩]; omega)
            have Hhx := hidA hx3
            clear hpq hpb HE5 hqq kP2
            unfold lpV at HBt
            cases hlp : leapO (px - qx) (py - qy) with
            | none =>
              have HE7 := hidA (HE6.out.trans (if_pos (by unfold stepBad; rw [hlp])))
              rw [hlp] at HBt
              clear hlp
              have wk := Hwk.out
              have wk2 := Hwk2.out
              go_upto_region 11 with fail
              refine wp_region_noPanic ?_
              refine wp_region_held_drew (S := fun w' => Ext w2 w') (by kernel_rfl) ?_ (fun hHeld => ?_)
              · (repeat (first | exact Ext.refl _ | assumption | refine Ext.setCell ?_ (by first | (simp; done) | (simp; omega)) _ | refine Ext.drewN ?_ _ | refine Ext.alloc ?_ _ | refine Ext.drew ?_ | refine Ext.trans ?_ (by assumption)))
              refine wpAnyH_take (i := 0) (oi := ?o3x0) (v := ?v3x0) ?hi3x0 (by kernel_rfl) ?hf3x0 ?hr3x0 (fun _ _ _ h => h) ?hy3x0 (by assumption) ?rest3x0
              case hi3x0 => (simp only [List.getElem?_toArray, List.getElem?_cons_zero]; exact rfl)
              case hf3x0 => kernel_rfl
              case hr3x0 => kernel_rfl
              case hy3x0 => (refine Or.inl ⟨by rfl, ?_⟩; intro w hSw; (try dsimp only at hSw); go_simp; try with_reducible rfl)
              simp only [put_mk, List.set_cons_succ, List.set_cons_zero]
              refine wpAnyH_take (i := 1) (oi := ?o3x1) (v := ?v3x1) ?hi3x1 (by kernel_rfl) ?hf3x1 ?hr3x1 (fun _ _ _ h => h) ?hy3x1 (by assumption) ?rest3x1
              case hi3x1 => (simp only [List.getElem?_toArray, List.getElem?_cons_succ, List.getElem?_cons_zero]; exact rfl)
              case hf3x1 => kernel_rfl
              case hr3x1 => kernel_rfl
              case hy3x1 => (refine Or.inl ⟨by rfl, ?_⟩; intro w hSw; (try dsimp only at hSw); go_simp; try with_reducible rfl)
              simp only [put_mk, List.set_cons_succ, List.set_cons_zero]
              refine wpAnyH_take (i := 2) (oi := ?o3x2) (v := ?v3x2) ?hi3x2 (by kernel_rfl) ?hf3x2 ?hr3x2 (fun _ _ _ h => h) ?hy3x2 (by assumption) ?rest3x2
              case hi3x2 => (simp only [List.getElem?_toArray, List.getElem?_cons_succ, List.getElem?_cons_zero]; exact rfl)
              case hf3x2 => kernel_rfl
              case hr3x2 => kernel_rfl
              case hy3x2 => (refine Or.inl ⟨by rfl, ?_⟩; intro w hSw; (try dsimp only at hSw); go_simp; try with_reducible rfl)
              simp only [put_mk, List.set_cons_succ, List.set_cons_zero]
              refine wpAnyH_take (i := 3) (oi := ?o3x3) (v := ?v3x3) ?hi3x3 (by kernel_rfl) ?hf3x3 ?hr3x3 (fun _ _ _ h => h) ?hy3x3 (by assumption) ?rest3x3
              case hi3x3 => (simp only [List.getElem?_toArray, List.getElem?_cons_succ, List.getElem?_cons_zero]; exact rfl)
              case hf3x3 => kernel_rfl
              case hr3x3 => kernel_rfl
              case hy3x3 => (refine Or.inl ⟨by rfl, ?_⟩; intro w hSw; (try dsimp only at hSw); go_simp; try with_reducible rfl)
              simp only [put_mk, List.set_cons_succ, List.set_cons_zero]
              refine wpAnyH_take (i := 4) (oi := ?o3x4) (v := ?v3x4) ?hi3x4 (by kernel_rfl) ?hf3x4 ?hr3x4 (fun _ _ _ h => h) ?hy3x4 (by assumption) ?rest3x4
              case hi3x4 => (simp only [List.getElem?_toArray, List.getElem?_cons_succ, List.getElem?_cons_zero]; exact rfl)
              case hf3x4 => kernel_rfl
              case hr3x4 => kernel_rfl
              case hy3x4 => (refine Or.inl ⟨by rfl, ?_⟩; intro w hSw; (try dsimp only at hSw); go_simp; try with_reducible rfl)
              simp only [put_mk, List.set_cons_succ, List.set_cons_zero]
              refine wpAnyH_take (i := 5) (oi := ?o3x5) (v := ?v3x5) ?hi3x5 (by kernel_rfl) ?hf3x5 ?hr3x5 (fun _ _ _ h => h) ?hy3x5 (by assumption) ?rest3x5
              case hi3x5 => (simp only [List.getElem?_toArray, List.getElem?_cons_succ, List.getElem?_cons_zero]; exact rfl)
              case hf3x5 => kernel_rfl
              case hr3x5 => kernel_rfl
              case hy3x5 => (refine Or.inl ⟨by rfl, ?_⟩; intro w hSw; (try dsimp only at hSw); go_simp; try with_reducible rfl)
              simp only [put_mk, List.set_cons_succ, List.set_cons_zero]
              refine wpAnyH_ready (rs := [6]) (by kernel_rfl) (by simp) ?_
              refine AllReadyH.cons (o := ?o3x6) ?hi3x6 (fun K hK => ?_) AllReadyH.nil
              case hi3x6 => (simp only [List.getElem?_toArray, List.getElem?_cons_succ, List.getElem?_cons_zero]; exact rfl)
              go_simp
              go_at_call 36; refine ((HBt _).out).mono ?_; rintro e w5 ⟨rfl, hx5⟩
              refine hK.out _ _ ?_ (fun hHeld => ?_)
              · (repeat (first | exact Ext.refl _ | assumption | refine Ext.setCell ?_ (by first | (simp; done) | (simp; omega)) _ | refine Ext.drewN ?_ _ | refine Ext.alloc ?_ _ | refine Ext.drew ?_ | refine Ext.trans ?_ (by assumption)))
              clear hK K
              refine wpAnyH_take (i := 7) (oi := ?o3x7) (v := ?v3x7) ?hi3x7 (by kernel_rfl) ?hf3x7 ?hr3x7 (fun _ _ _ h => h) ?hy3x7 (by assumption) ?rest3x7
              case hi3x7 => (simp only [List.getElem?_toArray, List.getElem?_cons_succ, List.getElem?_cons_zero]; exact rfl)
              case hf3x7 => kernel_rfl
              case hr3x7 => kernel_rfl
              case hy3x7 => (refine Or.inl ⟨by rfl, ?_⟩; intro w hSw; (try dsimp only at hSw); go_simp; try with_reducible rfl)
              simp only [put_mk, List.set_cons_succ, List.set_cons_zero]
              refine wpAnyH_take (i := 8) (oi := ?o3x8) (v := ?v3x8) ?hi3x8 (by kernel_rfl) ?hf3x8 ?hr3x8 (fun _ _ _ h => h) ?hy3x8 (by assumption) ?rest3x8
              case hi3x8 => (simp only [List.getElem?_toArray, List.getElem?_cons_succ, List.getElem?_cons_zero]; exact rfl)
              case hf3x8 => kernel_rfl
              case hr3x8 => kernel_rfl
              case hy3x8 => (refine Or.inl ⟨by rfl, ?_⟩; intro w hSw; (try dsimp only at hSw); go_simp; try with_reducible rfl)
              simp only [put_mk, List.set_cons_succ, List.set_cons_zero]
              refine wpAnyH_take (i := 9) (oi := ?o3x9) (v := ?v3x9) ?hi3x9 (by kernel_rfl) ?hf3x9 ?hr3x9 (fun _ _ _ h => h) ?hy3x9 (by assumption) ?rest3x9
              case hi3x9 => (simp only [List.getElem?_toArray, List.getElem?_cons_succ, List.getElem?_cons_zero]; exact rfl)
              case hf3x9 => kernel_rfl
              case hr3x9 => kernel_rfl
              case hy3x9 => (refine Or.inl ⟨by rfl, ?_⟩; intro w hSw; (try dsimp only at hSw); go_simp; try with_reducible rfl)
              simp only [put_mk, List.set_cons_succ, List.set_cons_zero]
              refine wpAnyH_take (i := 10) (oi := ?o3x10) (v := ?v3x10) ?hi3x10 (by kernel_rfl) ?hf3x10 ?hr3x10 (fun _ _ _ h => h) ?hy3x10 (by assumption) ?rest3x10
              case hi3x10 => (simp only [List.getElem?_toArray, List.getElem?_cons_succ, List.getElem?_cons_zero]; exact rfl)
              case hf3x10 => kernel_rfl
              case hr3x10 => kernel_rfl
              case hy3x10 => (refine Or.inl ⟨by rfl, ?_⟩; intro w hSw; (try dsimp only at hSw); go_simp; try with_reducible rfl)
              simp only [put_mk, List.set_cons_succ, List.set_cons_zero]
              refine wpAnyH_take (i := 11) (oi := ?o3x11) (v := ?v3x11) ?hi3x11 (by kernel_rfl) ?hf3x11 ?hr3x11 (fun _ _ _ h => h) ?hy3x11 (by assumption) ?rest3x11
              case hi3x11 => (simp only [List.getElem?_toArray, List.getElem?_cons_succ, List.getElem?_cons_zero]; exact rfl)
              case hf3x11 => kernel_rfl
              case hr3x11 => kernel_rfl
              case hy3x11 => (refine Or.inl ⟨by rfl, ?_⟩; intro w hSw; (try dsimp only at hSw); go_simp; try with_reducible rfl)
              simp only [put_mk, List.set_cons_succ, List.set_cons_zero]
              refine wpAnyH_done (by kernel_rfl) ?_ _
              refine NoPanic.normal ?_
              clear e0 e1 f0 f1 wk wk2
              go_wp2
              go_ret
              exact ⟨ret_i HE7.out.symm, Hhx.out.trans hHeld⟩
            | some z =>
              obtain ⟨d, n'⟩ := z
              have hd8 := (leapO_spec hlp).1
              rw [hlp] at HBt
              have hn1 : ¬ n' = 0 := by have := (leapO_spec hlp).2.1; omega
              have hn2 : ¬ (n' : Int) = 0 := by omega
              have hdn : ((n' : Int) == 0) = false := by simp; omega
              by_cases h12 : 12 < n'
              · have HE7 := hidA (HE6.out.trans (if_pos (by unfold stepBad; rw [hlp]; simpa using h12)))
                have h13 : (12 : Int) < n' := by omega
                clear hlp
                have wk := Hwk.out
                have wk2 := Hwk2.out
                go_upto_region 11 with fail
                refine wp_region_noPanic ?_
                refine wp_region_held_drew (S := fun w' => Ext w2 w') (by kernel_rfl) ?_ (fun hHeld => ?_)
                · (repeat (first | exact Ext.refl _ | assumption | refine Ext.setCell ?_ (by first | (simp; done) | (simp; omega)) _ | refine Ext.drewN ?_ _ | refine Ext.alloc ?_ _ | refine Ext.drew ?_ | refine Ext.trans ?_ (by assumption)))
                refine wpAnyH_take (i := 0) (oi := ?o4x0) (v := ?v4x0) ?hi4x0 (by kernel_rfl) ?hf4x0 ?hr4x0 (fun _ _ _ h => h) ?hy4x0 (by assumption) ?rest4x0
                case hi4x0 => (simp only [List.getElem?_toArray, List.getElem?_cons_zero]; exact rfl)
                case hf4x0 => kernel_rfl
                case hr4x0 => kernel_rfl
                case hy4x0 => (refine Or.inl ⟨by rfl, ?_⟩; intro w hSw; (try dsimp only at hSw); go_simp; try with_reducible rfl)
                simp only [put_mk, List.set_cons_succ, List.set_cons_zero]
                refine wpAnyH_take (i := 1) (oi := ?o4x1) (v := ?v4x1) ?hi4x1 (by kernel_rfl) ?hf4x1 ?hr4x1 (fun _ _ _ h => h) ?hy4x1 (by assumption) ?rest4x1
                case hi4x1 => (simp only [List.getElem?_toArray, List.getElem?_cons_succ, List.getElem?_cons_zero]; exact rfl)
                case hf4x1 => kernel_rfl
                case hr4x1 => kernel_rfl
                case hy4x1 => (refine Or.inl ⟨by rfl, ?_⟩; intro w hSw; (try dsimp only at hSw); go_simp; try with_reducible rfl)
                simp only [put_mk, List.set_cons_succ, List.set_cons_zero]
                refine wpAnyH_take (i := 2) (oi := ?o4x2) (v := ?v4x2) ?hi4x2 (by kernel_rfl) ?hf4x2 ?hr4x2 (fun _ _ _ h => h) ?hy4x2 (by assumption) ?rest4x2
                case hi4x2 => (simp only [List.getElem?_toArray, List.getElem?_cons_succ, List.getElem?_cons_zero]; exact rfl)
                case hf4x2 => kernel_rfl
                case hr4x2 => kernel_rfl
                case hy4x2 => (refine Or.inl ⟨by rfl, ?_⟩; intro w hSw; (try dsimp only at hSw); go_simp; try with_reducible rfl)
                simp only [put_mk, List.set_cons_succ, List.set_cons_zero]
                refine wpAnyH_take (i := 3) (oi := ?o4x3) (v := ?v4x3) ?hi4x3 (by kernel_rfl) ?hf4x3 ?hr4x3 (fun _ _ _ h => h) ?hy4x3 (by assumption) ?rest4x3
                case hi4x3 => (simp only [List.getElem?_toArray, List.getElem?_cons_succ, List.getElem?_cons_zero]; exact rfl)
                case hf4x3 => kernel_rfl
                case hr4x3 => kernel_rfl
                case hy4x3 => (refine Or.inl ⟨by rfl, ?_⟩; intro w hSw; (try dsimp only at hSw); go_simp; try with_reducible rfl)
                simp only [put_mk, List.set_cons_succ, List.set_cons_zero]
                refine wpAnyH_take (i := 4) (oi := ?o4x4) (v := ?v4x4) ?hi4x4 (by kernel_rfl) ?hf4x4 ?hr4x4 (fun _ _ _ h => h) ?hy4x4 (by assumption) ?rest4x4
                case hi4x4 => (simp only [List.getElem?_toArray, List.getElem?_cons_succ, List.getElem?_cons_zero]; exact rfl)
                case hf4x4 => kernel_rfl
                case hr4x4 => kernel_rfl
                case hy4x4 => (refine Or.inl ⟨by rfl, ?_⟩; intro w hSw; (try dsimp only at hSw); go_simp; try with_reducible rfl)
                simp only [put_mk, List.set_cons_succ, List.set_cons_zero]
                refine wpAnyH_take (i := 5) (oi := ?o4x5) (v := ?v4x5) ?hi4x5 (by kernel_rfl) ?hf4x5 ?hr4x5 (fun _ _ _ h => h) ?hy4x5 (by assumption) ?rest4x5
                case hi4x5 => (simp only [List.getElem?_toArray, List.getElem?_cons_succ, List.getElem?_cons_zero]; exact rfl)
                case hf4x5 => kernel_rfl
                case hr4x5 => kernel_rfl
                case hy4x5 => (refine Or.inl ⟨by rfl, ?_⟩; intro w hSw; (try dsimp only at hSw); go_simp; try with_reducible rfl)
                simp only [put_mk, List.set_cons_succ, List.set_cons_zero]
                refine wpAnyH_ready (rs := [6]) (by kernel_rfl) (by simp) ?_
                refine AllReadyH.cons (o := ?o4x6) ?hi4x6 (fun K hK => ?_) AllReadyH.nil
                case hi4x6 => (simp only [List.getElem?_toArray, List.getElem?_cons_succ, List.getElem?_cons_zero]; exact rfl)
                go_simp
                go_at_call 36; refine ((HBt _).out).mono ?_; rintro e w5 ⟨rfl, hx5⟩
                refine hK.out _ _ ?_ (fun hHeld => ?_)
                · (repeat (first | exact Ext.refl _ | assumption | refine Ext.setCell ?_ (by first | (simp; done) | (simp; omega)) _ | refine Ext.drewN ?_ _ | refine Ext.alloc ?_ _ | refine Ext.drew ?_ | refine Ext.trans ?_ (by assumption)))
                clear hK K
                refine wpAnyH_take (i := 7) (oi := ?o4x7) (v := ?v4x7) ?hi4x7 (by kernel_rfl) ?hf4x7 ?hr4x7 (fun _ _ _ h => h) ?hy4x7 (by assumption) ?rest4x7
                case hi4x7 => (simp only [List.getElem?_toArray, List.getElem?_cons_succ, List.getElem?_cons_zero]; exact rfl)
                case hf4x7 => kernel_rfl
                case hr4x7 => kernel_rfl
                case hy4x7 => (refine Or.inl ⟨by rfl, ?_⟩; intro w hSw; (try dsimp only at hSw); go_simp; try with_reducible rfl)
                simp only [put_mk, List.set_cons_succ, List.set_cons_zero]
                refine wpAnyH_take (i := 8) (oi := ?o4x8) (v := ?v4x8) ?hi4x8 (by kernel_rfl) ?hf4x8 ?hr4x8 (fun _ _ _ h => h) ?hy4x8 (by assumption) ?rest4x8
                case hi4x8 => (simp only [List.getElem?_toArray, List.getElem?_cons_succ, List.getElem?_cons_zero]; exact rfl)
                case hf4x8 => kernel_rfl
                case hr4x8 => kernel_rfl
                case hy4x8 => (refine Or.inl ⟨by rfl, ?_⟩; intro w hSw; (try dsimp only at hSw); go_simp; try with_reducible rfl)
                simp only [put_mk, List.set_cons_succ, List.set_cons_zero]
                refine wpAnyH_take (i := 9) (oi := ?o4x9) (v := ?v4x9) ?hi4x9 (by kernel_rfl) ?hf4x9 ?hr4x9 (fun _ _ _ h => h) ?hy4x9 (by assumption) ?rest4x9
                case hi4x9 => (simp only [List.getElem?_toArray, List.getElem?_cons_succ, List.getElem?_cons_zero]; exact rfl)
                case hf4x9 => kernel_rfl
                case hr4x9 => kernel_rfl
                case hy4x9 => (refine Or.inl ⟨by rfl, ?_⟩; intro w hSw; (try dsimp only at hSw); go_simp; try with_reducible rfl)
                simp only [put_mk, List.set_cons_succ, List.set_cons_zero]
                refine wpAnyH_take (i := 10) (oi := ?o4x10) (v := ?v4x10) ?hi4x10 (by kernel_rfl) ?hf4x10 ?hr4x10 (fun _ _ _ h => h) ?hy4x10 (by assumption) ?rest4x10
                case hi4x10 => (simp only [List.getElem?_toArray, List.getElem?_cons_succ, List.getElem?_cons_zero]; exact rfl)
                case hf4x10 => kernel_rfl
                case hr4x10 => kernel_rfl
                case hy4x10 => (refine Or.inl ⟨by rfl, ?_⟩; intro w hSw; (try dsimp only at hSw); go_simp; try with_reducible rfl)
                simp only [put_mk, List.set_cons_succ, List.set_cons_zero]
                refine wpAnyH_take (i := 11) (oi := ?o4x11) (v := ?v4x11) ?hi4x11 (by kernel_rfl) ?hf4x11 ?hr4x11 (fun _ _ _ h => h) ?hy4x11 (by assumption) ?rest4x11
                case hi4x11 => (simp only [List.getElem?_toArray, List.getElem?_cons_succ, List.getElem?_cons_zero]; exact rfl)
                case hf4x11 => kernel_rfl
                case hr4x11 => kernel_rfl
                case hy4x11 => (refine Or.inl ⟨by rfl, ?_⟩; intro w hSw; (try dsimp only at hSw); go_simp; try with_reducible rfl)
                simp only [put_mk, List.set_cons_succ, List.set_cons_zero]
                refine wpAnyH_done (by kernel_rfl) ?_ _
                refine NoPanic.normal ?_
                clear e0 e1 f0 f1 wk wk2
                go_wp2
                go_ret
                exact ⟨ret_i HE7.out.symm, Hhx.out.trans hHeld⟩
              · have HE7 := hidA (HE6.out.trans (if_neg (by unfold stepBad; rw [hlp]; simpa using h12)))
                have h13 : ¬ (12 : Int) < n' := by omega
                clear hlp
                have wk := Hwk.out
                have wk2 := Hwk2.out
                go_upto_region 11 with fail
                refine wp_region_noPanic ?_
                refine wp_region_held_drew (S := fun w' => Ext w2 w') (by kernel_rfl) ?_ (fun hHeld => ?_)
                · (repeat (first | exact Ext.refl _ | assumption | refine Ext.setCell ?_ (by first | (simp; done) | (simp; omega)) _ | refine Ext.drewN ?_ _ | refine Ext.alloc ?_ _ | refine Ext.drew ?_ | refine Ext.trans ?_ (by assumption)))
                refine wpAnyH_take (i := 0) (oi := ?o5x0) (v := ?v5x0) ?hi5x0 (by kernel_rfl) ?hf5x0 ?hr5x0 (fun _ _ _ h => h) ?hy5x0 (by assumption) ?rest5x0
                case hi5x0 => (simp only [List.getElem?_toArray, List.getElem?_cons_zero]; exact rfl)
                case hf5x0 => kernel_rfl
                case hr5x0 => kernel_rfl
                case hy5x0 => (refine Or.inl ⟨by rfl, ?_⟩; intro w hSw; (try dsimp only at hSw); go_simp; try with_reducible rfl)
                simp only [put_mk, List.set_cons_succ, List.set_cons_zero]
                refine wpAnyH_take (i := 1) (oi := ?o5x1) (v := ?v5x1) ?hi5x1 (by kernel_rfl) ?hf5x1 ?hr5x1 (fun _ _ _ h => h) ?hy5x1 (by assumption) ?rest5x1
                case hi5x1 => (simp only [List.getElem?_toArray, List.getElem?_cons_succ, List.getElem?_cons_zero]; exact rfl)
                case hf5x1 => kernel_rfl
                case hr5x1 => kernel_rfl
                case hy5x1 => (refine Or.inl ⟨by rfl, ?_⟩; intro w hSw; (try dsimp only at hSw); go_simp; try with_reducible rfl)
                simp only [put_mk, List.set_cons_succ, List.set_cons_zero]
                refine wpAnyH_take (i := 2) (oi := ?o5x2) (v := ?v5x2) ?hi5x2 (by kernel_rfl) ?hf5x2 ?hr5x2 (fun _ _ _ h => h) ?hy5x2 (by assumption) ?rest5x2
                case hi5x2 => (simp only [List.getElem?_toArray, List.getElem?_cons_succ, List.getElem?_cons_zero]; exact rfl)
                case hf5x2 => kernel_rfl
                case hr5x2 => kernel_rfl
                case hy5x2 => (refine Or.inl ⟨by rfl, ?_⟩; intro w hSw; (try dsimp only at hSw); go_simp; try with_reducible rfl)
                simp only [put_mk, List.set_cons_succ, List.set_cons_zero]
                refine wpAnyH_take (i := 3) (oi := ?o5x3) (v := ?v5x3) ?hi5x3 (by kernel_rfl) ?hf5x3 ?hr5x3 (fun _ _ _ h => h) ?hy5x3 (by assumption) ?rest5x3
                case hi5x3 => (simp only [List.getElem?_toArray, List.getElem?_cons_succ, List.getElem?_cons_zero]; exact rfl)
                case hf5x3 => kernel_rfl
                case hr5x3 => kernel_rfl
                case hy5x3 => (refine Or.inl ⟨by rfl, ?_⟩; intro w hSw; (try dsimp only at hSw); go_simp; try with_reducible rfl)
                simp only [put_mk, List.set_cons_succ, List.set_cons_zero]
                refine wpAnyH_take (i := 4) (oi := ?o5x4) (v := ?v5x4) ?hi5x4 (by kernel_rfl) ?hf5x4 ?hr5x4 (fun _ _ _ h => h) ?hy5x4 (by assumption) ?rest5x4
                case hi5x4 => (simp only [List.getElem?_toArray, List.getElem?_cons_succ, List.getElem?_cons_zero]; exact rfl)
                case hf5x4 => kernel_rfl
                case hr5x4 => kernel_rfl
                case hy5x4 => (refine Or.inl ⟨by rfl, ?_⟩; intro w hSw; (try dsimp only at hSw); go_simp; try with_reducible rfl)
                simp only [put_mk, List.set_cons_succ, List.set_cons_zero]
                refine wpAnyH_take (i := 5) (oi := ?o5x5) (v := ?v5x5) ?hi5x5 (by kernel_rfl) ?hf5x5 ?hr5x5 (fun _ _ _ h => h) ?hy5x5 (by assumption) ?rest5x5
                case hi5x5 => (simp only [List.getElem?_toArray, List.getElem?_cons_succ, List.getElem?_cons_zero]; exact rfl)
                case hf5x5 => kernel_rfl
                case hr5x5 => kernel_rfl
                case hy5x5 => (refine Or.inl ⟨by rfl, ?_⟩; intro w hSw; (try dsimp only at hSw); go_simp; try with_reducible rfl)
                simp only [put_mk, List.set_cons_succ, List.set_cons_zero]
                refine wpAnyH_ready (rs := [6]) (by kernel_rfl) (by simp) ?_
                refine AllReadyH.cons (o := ?o5x6) ?hi5x6 (fun K hK => ?_) AllReadyH.nil
                case hi5x6 => (simp only [List.getElem?_toArray, List.getElem?_cons_succ, List.getElem?_cons_zero]; exact rfl)
                go_simp
                go_at_call 36; refine ((HBt _).out).mono ?_; rintro e w5 ⟨rfl, hx5⟩
                refine hK.out _ _ ?_ (fun hHeld => ?_)
                · (repeat (first | exact Ext.refl _ | assumption | refine Ext.setCell ?_ (by first | (simp; done) | (simp; omega)) _ | refine Ext.drewN ?_ _ | refine Ext.alloc ?_ _ | refine Ext.drew ?_ | refine Ext.trans ?_ (by assumption)))
                clear hK K
                refine wpAnyH_take (i := 7) (oi := ?o5x7) (v := ?v5x7) ?hi5x7 (by kernel_rfl) ?hf5x7 ?hr5x7 (fun _ _ _ h => h) ?hy5x7 (by assumption) ?rest5x7
                case hi5x7 => (simp only [List.getElem?_toArray, List.getElem?_cons_succ, List.getElem?_cons_zero]; exact rfl)
                case hf5x7 => kernel_rfl
                case hr5x7 => kernel_rfl
                case hy5x7 => (refine Or.inl ⟨by rfl, ?_⟩; intro w hSw; (try dsimp only at hSw); go_simp; try with_reducible rfl)
                simp only [put_mk, List.set_cons_succ, List.set_cons_zero]
                refine wpAnyH_take (i := 8) (oi := ?o5x8) (v := ?v5x8) ?hi5x8 (by kernel_rfl) ?hf5x8 ?hr5x8 (fun _ _ _ h => h) ?hy5x8 (by assumption) ?rest5x8
                case hi5x8 => (simp only [List.getElem?_toArray, List.getElem?_cons_succ, List.getElem?_cons_zero]; exact rfl)
                case hf5x8 => kernel_rfl
                case hr5x8 => kernel_rfl
                case hy5x8 => (refine Or.inl ⟨by rfl, ?_⟩; intro w hSw; (try dsimp only at hSw); go_simp; try with_reducible rfl)
                simp only [put_mk, List.set_cons_succ, List.set_cons_zero]
                refine wpAnyH_take (i := 9) (oi := ?o5x9) (v := ?v5x9) ?hi5x9 (by kernel_rfl) ?hf5x9 ?hr5x9 (fun _ _ _ h => h) ?hy5x9 (by assumption) ?rest5x9
                case hi5x9 => (simp only [List.getElem?_toArray, List.getElem?_cons_succ, List.getElem?_cons_zero]; exact rfl)
                case hf5x9 => kernel_rfl
                case hr5x9 => kernel_rfl
                case hy5x9 => (refine Or.inl ⟨by rfl, ?_⟩; intro w hSw; (try dsimp only at hSw); go_simp; try with_reducible rfl)
                simp only [put_mk, List.set_cons_succ, List.set_cons_zero]
                refine wpAnyH_take (i := 10) (oi := ?o5x10) (v := ?v5x10) ?hi5x10 (by kernel_rfl) ?hf5x10 ?hr5x10 (fun _ _ _ h => h) ?hy5x10 (by assumption) ?rest5x10
                case hi5x10 => (simp only [List.getElem?_toArray, List.getElem?_cons_succ, List.getElem?_cons_zero]; exact rfl)
                case hf5x10 => kernel_rfl
                case hr5x10 => kernel_rfl
                case hy5x10 => (refine Or.inl ⟨by rfl, ?_⟩; intro w hSw; (try dsimp only at hSw); go_simp; try with_reducible rfl)
                simp only [put_mk, List.set_cons_succ, List.set_cons_zero]
                refine wpAnyH_take (i := 11) (oi := ?o5x11) (v := ?v5x11) ?hi5x11 (by kernel_rfl) ?hf5x11 ?hr5x11 (fun _ _ _ h => h) ?hy5x11 (by assumption) ?rest5x11
                case hi5x11 => (simp only [List.getElem?_toArray, List.getElem?_cons_succ, List.getElem?_cons_zero]; exact rfl)
                case hf5x11 => kernel_rfl
                case hr5x11 => kernel_rfl
                case hy5x11 => (refine Or.inl ⟨by rfl, ?_⟩; intro w hSw; (try dsimp only at hSw); go_simp; try with_reducible rfl)
                simp only [put_mk, List.set_cons_succ, List.set_cons_zero]
                refine wpAnyH_done (by kernel_rfl) ?_ _
                refine NoPanic.normal ?_
                clear e0 e1 f0 f1 wk wk2
                go_wp2
                go_roundw
                case rel => exact ⟨k + 1, by omega, by go_num, HE7.out, fun _ => by rw [Nat.add_sub_cancel, hpp2.out]; exact Hb.out, Hhx.out.trans hHeld⟩
                case measure => simp [intOf]; omega
        · rw [hb] at HHa
          have HE5 := hidA (HE4.out.trans (if_pos hb))
          clear hb HE4 hbe p0 p1
          refine wp_region_noPanic ?_
          refine wp_region_held_drew (S := fun w' => Ext w1 w') (by kernel_rfl) ?_ (fun hHeld => ?_)
          · (repeat (first | exact Ext.refl _ | assumption | refine Ext.setCell ?_ (by first | (simp; done) | (simp; omega)) _ | refine Ext.drewN ?_ _ | refine Ext.alloc ?_ _ | refine Ext.drew ?_ | refine Ext.trans ?_ (by assumption)))
          refine wpAnyH_take (i := 0) (oi := ?o2x0) (v := ?v2x0) ?hi2x0 (by kernel_rfl) ?hf2x0 ?hr2x0 (fun _ _ _ h => h) ?hy2x0 (by assumption) ?rest2x0
          case hi2x0 => (simp only [List.getElem?_toArray, List.getElem?_cons_zero]; exact rfl)
          case hf2x0 => kernel_rfl
          case hr2x0 => kernel_rfl
          case hy2x0 => (refine Or.inl ⟨by rfl, ?_⟩; intro w hSw; (try dsimp only at hSw); go_simp; try with_reducible rfl)
          simp only [put_mk, List.set_cons_succ, List.set_cons_zero]
          refine wpAnyH_take (i := 1) (oi := ?o2x1) (v := ?v2x1) ?hi2x1 (by kernel_rfl) ?hf2x1 ?hr2x1 (fun _ _ _ h => h) ?hy2x1 (by assumption) ?rest2x1
          case hi2x1 => (simp only [List.getElem?_toArray, List.getElem?_cons_succ, List.getElem?_cons_zero]; exact rfl)
          case hf2x1 => kernel_rfl
          case hr2x1 => kernel_rfl
          case hy2x1 => (refine Or.inl ⟨by rfl, ?_⟩; intro w hSw; (try dsimp only at hSw); go_simp; try with_reducible rfl)
          simp only [put_mk, List.set_cons_succ, List.set_cons_zero]
          refine wpAnyH_take (i := 2) (oi := ?o2x2) (v := ?v2x2) ?hi2x2 (by kernel_rfl) ?hf2x2 ?hr2x2 (fun _ _ _ h => h) ?hy2x2 (by assumption) ?rest2x2
          case hi2x2 => (simp only [List.getElem?_toArray, List.getElem?_cons_succ, List.getElem?_cons_zero]; exact rfl)
          case hf2x2 => kernel_rfl
          case hr2x2 => kernel_rfl
          case hy2x2 => (refine Or.inl ⟨by rfl, ?_⟩; intro w hSw; (try dsimp only at hSw); go_simp; try with_reducible rfl)
          simp only [put_mk, List.set_cons_succ, List.set_cons_zero]
          refine wpAnyH_take (i := 3) (oi := ?o2x3) (v := ?v2x3) ?hi2x3 (by kernel_rfl) ?hf2x3 ?hr2x3 (fun _ _ _ h => h) ?hy2x3 (by assumption) ?rest2x3
          case hi2x3 => (simp only [List.getElem?_toArray, List.getElem?_cons_succ, List.getElem?_cons_zero]; exact rfl)
          case hf2x3 => kernel_rfl
          case hr2x3 => kernel_rfl
          case hy2x3 => (refine Or.inl ⟨by rfl, ?_⟩; intro w hSw; (try dsimp only at hSw); go_simp; try with_reducible rfl)
          simp only [put_mk, List.set_cons_succ, List.set_cons_zero]
          refine wpAnyH_take (i := 4) (oi := ?o2x4) (v := ?v2x4) ?hi2x4 (by kernel_rfl) ?hf2x4 ?hr2x4 (fun _ _ _ h => h) ?hy2x4 (by assumption) ?rest2x4
          case hi2x4 => (simp only [List.getElem?_toArray, List.getElem?_cons_succ, List.getElem?_cons_zero]; exact rfl)
          case hf2x4 => kernel_rfl
          case hr2x4 => kernel_rfl
          case hy2x4 => (refine Or.inl ⟨by rfl, ?_⟩; intro w hSw; (try dsimp only at hSw); go_simp; try with_reducible rfl)
          simp only [put_mk, List.set_cons_succ, List.set_cons_zero]
          refine wpAnyH_take (i := 5) (oi := ?o2x5) (v := ?v2x5) ?hi2x5 (by kernel_rfl) ?hf2x5 ?hr2x5 (fun _ _ _ h => h) ?hy2x5 (by assumption) ?rest2x5
          case hi2x5 => (simp only [List.getElem?_toArray, List.getElem?_cons_succ, List.getElem?_cons_zero]; exact rfl)
          case hf2x5 => kernel_rfl
          case hr2x5 => kernel_rfl
          case hy2x5 => (refine Or.inl ⟨by rfl, ?_⟩; intro w hSw; (try dsimp only at hSw); go_simp; try with_reducible rfl)
          simp only [put_mk, List.set_cons_succ, List.set_cons_zero]
          refine wpAnyH_take (i := 6) (oi := ?o2x6) (v := ?v2x6) ?hi2x6 (by kernel_rfl) ?hf2x6 ?hr2x6 (fun _ _ _ h => h) ?hy2x6 (by assumption) ?rest2x6
          case hi2x6 => (simp only [List.getElem?_toArray, List.getElem?_cons_succ, List.getElem?_cons_zero]; exact rfl)
          case hf2x6 => kernel_rfl
          case hr2x6 => kernel_rfl
          case hy2x6 => (refine Or.inl ⟨by rfl, ?_⟩; intro w hSw; (try dsimp only at hSw); go_simp; try with_reducible rfl)
          simp only [put_mk, List.set_cons_succ, List.set_cons_zero]
          refine wpAnyH_take (i := 7) (oi := ?o2x7) (v := ?v2x7) ?hi2x7 (by kernel_rfl) ?hf2x7 ?hr2x7 (fun _ _ _ h => h) ?hy2x7 (by assumption) ?rest2x7
          case hi2x7 => (simp only [List.getElem?_toArray, List.getElem?_cons_succ, List.getElem?_cons_zero]; exact rfl)
          case hf2x7 => kernel_rfl
          case hr2x7 => kernel_rfl
          case hy2x7 => (refine Or.inl ⟨by rfl, ?_⟩; intro w hSw; (try dsimp only at hSw); go_simp; try with_reducible rfl)
          simp only [put_mk, List.set_cons_succ, List.set_cons_zero]
          refine wpAnyH_take (i := 8) (oi := ?o2x8) (v := ?v2x8) ?hi2x8 (by kernel_rfl) ?hf2x8 ?hr2x8 (fun _ _ _ h => h) ?hy2x8 (by assumption) ?rest2x8
          case hi2x8 => (simp only [List.getElem?_toArray, List.getElem?_cons_succ, List.getElem?_cons_zero]; exact rfl)
          case hf2x8 => kernel_rfl
          case hr2x8 => kernel_rfl
          case hy2x8 => (refine Or.inl ⟨by rfl, ?_⟩; intro w hSw; (try dsimp only at hSw); go_simp; try with_reducible rfl)
          simp only [put_mk, List.set_cons_succ, List.set_cons_zero]
          refine wpAnyH_take (i := 9) (oi := ?o2x9) (v := ?v2x9) ?hi2x9 (by kernel_rfl) ?hf2x9 ?hr2x9 (fun _ _ _ h => h) ?hy2x9 (by assumption) ?rest2x9
          case hi2x9 => (simp only [List.getElem?_toArray, List.getElem?_cons_succ, List.getElem?_cons_zero]; exact rfl)
          case hf2x9 => kernel_rfl
          case hr2x9 => kernel_rfl
          case hy2x9 => (refine Or.inl ⟨by rfl, ?_⟩; intro w hSw; (try dsimp only at hSw); go_simp; try with_reducible rfl)
          simp only [put_mk, List.set_cons_succ, List.set_cons_zero]
          refine wpAnyH_take (i := 10) (oi := ?o2x10) (v := ?v2x10) ?hi2x10 (by kernel_rfl) ?hf2x10 ?hr2x10 (fun _ _ _ h => h) ?hy2x10 (by assumption) ?rest2x10
          case hi2x10 => (simp only [List.getElem?_toArray, List.getElem?_cons_succ, List.getElem?_cons_zero]; exact rfl)
          case hf2x10 => kernel_rfl
          case hr2x10 => kernel_rfl
          case hy2x10 => (refine Or.inl ⟨by rfl, ?_⟩; intro w hSw; (try dsimp only at hSw); go_simp; try with_reducible rfl)
          simp only [put_mk, List.set_cons_succ, List.set_cons_zero]
          refine wpAnyH_take (i := 11) (oi := ?o2x11) (v := ?v2x11) ?hi2x11 (by kernel_rfl) ?hf2x11 ?hr2x11 (fun _ _ _ h => h) ?hy2x11 (by assumption) ?rest2x11
          case hi2x11 => (simp only [List.getElem?_toArray, List.getElem?_cons_succ, List.getElem?_cons_zero]; exact rfl)
          case hf2x11 => kernel_rfl
          case hr2x11 => kernel_rfl
          case hy2x11 => (refine Or.inl ⟨by rfl, ?_⟩; intro w hSw; (try dsimp only at hSw); go_simp; try with_reducible rfl)
          simp only [put_mk, List.set_cons_succ, List.set_cons_zero]
          refine wpAnyH_take (i := 12) (oi := ?o2x12) (v := ?v2x12) ?hi2x12 (by kernel_rfl) ?hf2x12 ?hr2x12 (fun _ _ _ h => h) ?hy2x12 (by assumption) ?rest2x12
          case hi2x12 => (simp only [List.getElem?_toArray, List.getElem?_cons_succ, List.getElem?_cons_zero]; exact rfl)
          case hf2x12 => kernel_rfl
          case hr2x12 => kernel_rfl
          case hy2x12 => (refine Or.inl ⟨by rfl, ?_⟩; intro w hSw; (try dsimp only at hSw); go_simp; try with_reducible rfl)
          simp only [put_mk, List.set_cons_succ, List.set_cons_zero]
          refine wpAnyH_take (i := 13) (oi := ?o2x13) (v := ?v2x13) ?hi2x13 (by kernel_rfl) ?hf2x13 ?hr2x13 (fun _ _ _ h => h) ?hy2x13 (by assumption) ?rest2x13
          case hi2x13 => (simp only [List.getElem?_toArray, List.getElem?_cons_succ, List.getElem?_cons_zero]; exact rfl)
          case hf2x13 => kernel_rfl
          case hr2x13 => kernel_rfl
          case hy2x13 => (refine Or.inl ⟨by rfl, ?_⟩; intro w hSw; (try dsimp only at hSw); go_simp; try with_reducible rfl)
          simp only [put_mk, List.set_cons_succ, List.set_cons_zero]
          refine wpAnyH_take (i := 14) (oi := ?o2x14) (v := ?v2x14) ?hi2x14 (by kernel_rfl) ?hf2x14 ?hr2x14 (fun _ _ _ h => h) ?hy2x14 (by assumption) ?rest2x14
          case hi2x14 => (simp only [List.getElem?_toArray, List.getElem?_cons_succ, List.getElem?_cons_zero]; exact rfl)
          case hf2x14 => kernel_rfl
          case hr2x14 => kernel_rfl
          case hy2x14 => (refine Or.inl ⟨by rfl, ?_⟩; intro w hSw; (try dsimp only at hSw); go_simp; try with_reducible rfl)
          simp only [put_mk, List.set_cons_succ, List.set_cons_zero]
          refine wpAnyH_take (i := 15) (oi := ?o2x15) (v := ?v2x15) ?hi2x15 (by kernel_rfl) ?hf2x15 ?hr2x15 (fun _ _ _ h => h) ?hy2x15 (by assumption) ?rest2x15
          case hi2x15 => (simp only [List.getElem?_toArray, List.getElem?_cons_succ, List.getElem?_cons_zero]; exact rfl)
          case hf2x15 => kernel_rfl
          case hr2x15 => kernel_rfl
          case hy2x15 => (refine Or.inl ⟨by rfl, ?_⟩; intro w hSw; (try dsimp only at hSw); go_simp; try with_reducible rfl)
          simp only [put_mk, List.set_cons_succ, List.set_cons_zero]
          refine wpAnyH_take (i := 16) (oi := ?o2x16) (v := ?v2x16) ?hi2x16 (by kernel_rfl) ?hf2x16 ?hr2x16 (fun _ _ _ h => h) ?hy2x16 (by assumption) ?rest2x16
          case hi2x16 => (simp only [List.getElem?_toArray, List.getElem?_cons_succ, List.getElem?_cons_zero]; exact rfl)
          case hf2x16 => kernel_rfl
          case hr2x16 => kernel_rfl
          case hy2x16 => (refine Or.inl ⟨by rfl, ?_⟩; intro w hSw; (try dsimp only at hSw); go_simp; try with_reducible rfl)
          simp only [put_mk, List.set_cons_succ, List.set_cons_zero]
          refine wpAnyH_take (i := 17) (oi := ?o2x17) (v := ?v2x17) ?hi2x17 (by kernel_rfl) ?hf2x17 ?hr2x17 (fun _ _ _ h => h) ?hy2x17 (by assumption) ?rest2x17
          case hi2x17 => (simp only [List.getElem?_toArray, List.getElem?_cons_succ, List.getElem?_cons_zero]; exact rfl)
          case hf2x17 => kernel_rfl
          case hr2x17 => kernel_rfl
          case hy2x17 => (refine Or.inl ⟨by rfl, ?_⟩; intro w hSw; (try dsimp only at hSw); go_simp; try with_reducible rfl)
          simp only [put_mk, List.set_cons_succ, List.set_cons_zero]
          refine wpAnyH_take (i := 18) (oi := ?o2x18) (v := ?v2x18) ?hi2x18 (by kernel_rfl) ?hf2x18 ?hr2x18 (fun _ _ _ h => h) ?hy2x18 (by assumption) ?rest2x18
          case hi2x18 => (simp only [List.getElem?_toArray, List.getElem?_cons_succ, List.getElem?_cons_zero]; exact rfl)
          case hf2x18 => kernel_rfl
          case hr2x18 => kernel_rfl
          case hy2x18 => (refine Or.inl ⟨by rfl, ?_⟩; intro w hSw; (try dsimp only at hSw); go_simp; try with_reducible rfl)
          simp only [put_mk, List.set_cons_succ, List.set_cons_zero]
          refine wpAnyH_take (i := 19) (oi := ?o2x19) (v := ?v2x19) ?hi2x19 (by kernel_rfl) ?hf2x19 ?hr2x19 (fun _ _ _ h => h) ?hy2x19 (by assumption) ?rest2x19
          case hi2x19 => (simp only [List.getElem?_toArray, List.getElem?_cons_succ, List.getElem?_cons_zero]; exact rfl)
          case hf2x19 => kernel_rfl
          case hr2x19 => kernel_rfl
          case hy2x19 => (refine Or.inl ⟨by rfl, ?_⟩; intro w hSw; (try dsimp only at hSw); go_simp; try with_reducible rfl)
          simp only [put_mk, List.set_cons_succ, List.set_cons_zero]
          refine wpAnyH_take (i := 20) (oi := ?o2x20) (v := ?v2x20) ?hi2x20 (by kernel_rfl) ?hf2x20 ?hr2x20 (fun _ _ _ h => h) ?hy2x20 (by assumption) ?rest2x20
          case hi2x20 => (simp only [List.getElem?_toArray, List.getElem?_cons_succ, List.getElem?_cons_zero]; exact rfl)
          case hf2x20 => kernel_rfl
          case hr2x20 => kernel_rfl
          case hy2x20 => (refine Or.inl ⟨by rfl, ?_⟩; intro w hSw; (try dsimp only at hSw); go_simp; try with_reducible rfl)
          simp only [put_mk, List.set_cons_succ, List.set_cons_zero]
          refine wpAnyH_take (i := 21) (oi := ?o2x21) (v := ?v2x21) ?hi2x21 (by kernel_rfl) ?hf2x21 ?hr2x21 (fun _ _ _ h => h) ?hy2x21 (by assumption) ?rest2x21
          case hi2x21 => (simp only [List.getElem?_toArray, List.getElem?_cons_succ, List.getElem?_cons_zero]; exact rfl)
          case hf2x21 => kernel_rfl
          case hr2x21 => kernel_rfl
          case hy2x21 => (refine Or.inl ⟨by rfl, ?_⟩; intro w hSw; (try dsimp only at hSw); go_simp; try with_reducible rfl)
          simp only [put_mk, List.set_cons_succ, List.set_cons_zero]
          refine wpAnyH_take (i := 22) (oi := ?o2x22) (v := ?v2x22) ?hi2x22 (by kernel_rfl) ?hf2x22 ?hr2x22 (fun _ _ _ h => h) ?hy2x22 (by assumption) ?rest2x22
          case hi2x22 => (simp only [List.getElem?_toArray, List.getElem?_cons_succ, List.getElem?_cons_zero]; exact rfl)
          case hf2x22 => kernel_rfl
          case hr2x22 => kernel_rfl
          case hy2x22 => (refine Or.inl ⟨by rfl, ?_⟩; intro w hSw; (try dsimp only at hSw); go_simp; try with_reducible rfl)
          simp only [put_mk, List.set_cons_succ, List.set_cons_zero]
          refine wpAnyH_take (i := 23) (oi := ?o2x23) (v := ?v2x23) ?hi2x23 (by kernel_rfl) ?hf2x23 ?hr2x23 (fun _ _ _ h => h) ?hy2x23 (by assumption) ?rest2x23
          case hi2x23 => (simp only [List.getElem?_toArray, List.getElem?_cons_succ, List.getElem?_cons_zero]; exact rfl)
          case hf2x23 => kernel_rfl
          case hr2x23 => kernel_rfl
          case hy2x23 => (refine Or.inl ⟨by rfl, ?_⟩; intro w hSw; (try dsimp only at hSw); go_simp; try with_reducible rfl)
          simp only [put_mk, List.set_cons_succ, List.set_cons_zero]
          refine wpAnyH_take (i := 24) (oi := ?o2x24) (v := ?v2x24) ?hi2x24 (by kernel_rfl) ?hf2x24 ?hr2x24 (fun _ _ _ h => h) ?hy2x24 (by assumption) ?rest2x24
          case hi2x24 => (simp only [List.getElem?_toArray, List.getElem?_cons_succ, List.getElem?_cons_zero]; exact rfl)
          case hf2x24 => kernel_rfl
          case hr2x24 => kernel_rfl
          case hy2x24 => (refine Or.inl ⟨by rfl, ?_⟩; intro w hSw; (try dsimp only at hSw); go_simp; try with_reducible rfl)
          simp only [put_mk, List.set_cons_succ, List.set_cons_zero]
          refine wpAnyH_take (i := 25) (oi := ?o2x25) (v := ?v2x25) ?hi2x25 (by kernel_rfl) ?hf2x25 ?hr2x25 (fun _ _ _ h => h) ?hy2x25 (by assumption) ?rest2x25
          case hi2x25 => (simp only [List.getElem?_toArray, List.getElem?_cons_succ, List.getElem?_cons_zero]; exact rfl)
          case hf2x25 => kernel_rfl
          case hr2x25 => kernel_rfl
          case hy2x25 => (refine Or.inl ⟨by rfl, ?_⟩; intro w hSw; (try dsimp only at hSw); go_simp; try with_reducible rfl)
          simp only [put_mk, List.set_cons_succ, List.set_cons_zero]
          refine wpAnyH_take (i := 26) (oi := ?o2x26) (v := ?v2x26) ?hi2x26 (by kernel_rfl) ?hf2x26 ?hr2x26 (fun _ _ _ h => h) ?hy2x26 (by assumption) ?rest2x26
          case hi2x26 => (simp only [List.getElem?_toArray, List.getElem?_cons_succ, List.getElem?_cons_zero]; exact rfl)
          case hf2x26 => kernel_rfl
          case hr2x26 => kernel_rfl
          case hy2x26 => (refine Or.inl ⟨by rfl, ?_⟩; intro w hSw; (try dsimp only at hSw); go_simp; try with_reducible rfl)
          simp only [put_mk, List.set_cons_succ, List.set_cons_zero]
          refine wpAnyH_take (i := 27) (oi := ?o2x27) (v := ?v2x27) ?hi2x27 (by kernel_rfl) ?hf2x27 ?hr2x27 (fun _ _ _ h => h) ?hy2x27 (by assumption) ?rest2x27
          case hi2x27 => (simp only [List.getElem?_toArray, List.getElem?_cons_succ, List.getElem?_cons_zero]; exact rfl)
          case hf2x27 => kernel_rfl
          case hr2x27 => kernel_rfl
          case hy2x27 => (refine Or.inl ⟨by rfl, ?_⟩; intro w hSw; (try dsimp only at hSw); go_simp; try with_reducible rfl)
          simp only [put_mk, List.set_cons_succ, List.set_cons_zero]
          refine wpAnyH_take (i := 28) (oi := ?o2x28) (v := ?v2x28) ?hi2x28 (by kernel_rfl) ?hf2x28 ?hr2x28 (fun _ _ _ h => h) ?hy2x28 (by assumption) ?rest2x28
          case hi2x28 => (simp only [List.getElem?_toArray, List.getElem?_cons_succ, List.getElem?_cons_zero]; exact rfl)
          case hf2x28 => kernel_rfl
          case hr2x28 => kernel_rfl
          case hy2x28 => (refine Or.inl ⟨by rfl, ?_⟩; intro w hSw; (try dsimp only at hSw); go_simp; try with_reducible rfl)
          simp only [put_mk, List.set_cons_succ, List.set_cons_zero]
          refine wpAnyH_take (i := 29) (oi := ?o2x29) (v := ?v2x29) ?hi2x29 (by kernel_rfl) ?hf2x29 ?hr2x29 (fun _ _ _ h => h) ?hy2x29 (by assumption) ?rest2x29
          case hi2x29 => (simp only [List.getElem?_toArray, List.getElem?_cons_succ, List.getElem?_cons_zero]; exact rfl)
          case hf2x29 => kernel_rfl
          case hr2x29 => kernel_rfl
          case hy2x29 => (refine Or.inl ⟨by rfl, ?_⟩; intro w hSw; (try dsimp only at hSw); go_simp; try with_reducible rfl)
          simp only [put_mk, List.set_cons_succ, List.set_cons_zero]
          refine wpAnyH_ready (rs := [30]) (by kernel_rfl) (by simp) ?_
          refine AllReadyH.cons (o := ?o2x30) ?hi2x30 (fun K hK => ?_) AllReadyH.nil
          case hi2x30 => (simp only [List.getElem?_toArray, List.getElem?_cons_succ, List.getElem?_cons_zero]; exact rfl)
          go_simp
          go_at_call 20; refine ((HHa _).out).mono ?_; rintro e wb ⟨rfl, hxb⟩
          refine hK.out _ _ ?_ (fun hHeld => ?_)
          · (repeat (first | exact Ext.refl _ | assumption | refine Ext.setCell ?_ (by first | (simp; done) | (simp; omega)) _ | refine Ext.drewN ?_ _ | refine Ext.alloc ?_ _ | refine Ext.drew ?_ | refine Ext.trans ?_ (by assumption)))
          clear hK K
          refine wpAnyH_take (i := 31) (oi := ?o2x31) (v := ?v2x31) ?hi2x31 (by kernel_rfl) ?hf2x31 ?hr2x31 (fun _ _ _ h => h) ?hy2x31 (by assumption) ?rest2x31
          case hi2x31 => (simp only [List.getElem?_toArray, List.getElem?_cons_succ, List.getElem?_cons_zero]; exact rfl)
          case hf2x31 => kernel_rfl
          case hr2x31 => kernel_rfl
          case hy2x31 => (refine Or.inl ⟨by rfl, ?_⟩; intro w hSw; (try dsimp only at hSw); go_simp; try with_reducible rfl)
          simp only [put_mk, List.set_cons_succ, List.set_cons_zero]
          refine wpAnyH_take (i := 32) (oi := ?o2x32) (v := ?v2x32) ?hi2x32 (by kernel_rfl) ?hf2x32 ?hr2x32 (fun _ _ _ h => h) ?hy2x32 (by assumption) ?rest2x32
          case hi2x32 => (simp only [List.getElem?_toArray, List.getElem?_cons_succ, List.getElem?_cons_zero]; exact rfl)
          case hf2x32 => kernel_rfl
          case hr2x32 => kernel_rfl
          case hy2x32 => (refine Or.inl ⟨by rfl, ?_⟩; intro w hSw; (try dsimp only at hSw); go_simp; try with_reducible rfl)
          simp only [put_mk, List.set_cons_succ, List.set_cons_zero]
          refine wpAnyH_take (i := 33) (oi := ?o2x33) (v := ?v2x33) ?hi2x33 (by kernel_rfl) ?hf2x33 ?hr2x33 (fun _ _ _ h => h) ?hy2x33 (by assumption) ?rest2x33
          case hi2x33 => (simp only [List.getElem?_toArray, List.getElem?_cons_succ, List.getElem?_cons_zero]; exact rfl)
          case hf2x33 => kernel_rfl
          case hr2x33 => kernel_rfl
          case hy2x33 => (refine Or.inl ⟨by rfl, ?_⟩; intro w hSw; (try dsimp only at hSw); go_simp; try with_reducible rfl)
          simp only [put_mk, List.set_cons_succ, List.set_cons_zero]
          refine wpAnyH_done (by kernel_rfl) ?_ _
          refine NoPanic.normal ?_
          go_wp2
          go_ret
          exact ⟨ret_i HE5.out.symm, hx1.trans hHeld⟩
      all_goals
        have hb : outG X Y W H (px, py) = true := outG_far (by omega)
        have HE5 := hidA (HE4.out.trans (if_pos hb))
        clear hb HE4
        go_quiet (fail)
        clear p0 p1
        go_wp2
        go_ret
        exact ⟨ret_i HE5.out.symm, hx1.trans (by repeat (first | exact Ext.refl _ | assumption | refine Ext.setCell ?_ (by first | (simp; done) | (simp; omega)) _ | refine Ext.drewN ?_ _ | refine Ext.alloc ?_ _ | refine Ext.drew ?_ | refine Ext.trans ?_ (by assumption)))⟩
    · have hkn2 : n = k := by omega
      subst hkn2
      have HE5 := hidA (show E = 0 from by rw [HEk.out, Nat.sub_self]; rfl)
      go_wp2
      go_ret
      exact ⟨ret_i HE5.out.symm, hx⟩
theorem WayErrorF_any (X Y : Int) (Wn Hn : Nat) (F : Option Addr) (N cf hf : Nat) (A : Option Addr) (n c : Nat) (l : List (Int × Int)) (w : World) (hr : Reg X Y Wn Hn) (kF : Bk w hf 26 #[.int .i64 X, .int .i64 Y, .int .i64 (Wn : Int), .int .i64 (Hn : Int), .slice F N cf]) (hn : l.length = n) (hV : Rd w A (ptv l)) (hb7 : n ≤ 140737488351232) :
    Calls Try.prog 39 #[.pointer (some ⟨hf, 0, none⟩), .slice A n c] w fun e w' => e = .returned (.int .i64 (wayE (outP X Y Wn Hn) l)) ∧ Ext w w' := by
  rw [← outG_P hr]
  exact WayErrorG_any X Y Wn Hn F N cf hf A n c l w kF hn hV hb7
end Go.Proofs.Ytpgdinpckolfpaa

namespace Go.Proofs.Ytpgdinpckolfpaa
open Go.RowKit
attribute [local go_sem ↓] Go.wp_at_zero Go.wp_at_succ
attribute [local go_sem] run_store_float

/-- p + (q - p) * t -/
def mixB (p q t : Nat) : Nat := fadd p (fmul (fsub q p) t)
theorem mixB_ok {K p q t : Nat} (hp : Bd K p) (hq : Bd K q) (ht : Bd 0 t) (hK : K ≤ 100) : floatBits .sub .f32 q p = some (fsub q p) ∧ floatBits .mul .f32 (fsub q p) t = some (fmul (fsub q p) t) ∧ floatBits .add .f32 p (fmul (fsub q p) t) = some (mixB p q t) ∧ Bd (K + 5) (mixB p q t) := by
  have h1 := fsub_ok hq hp (by omega)
  have h2 := fmul_ok h1.2 ht (by omega)
  have h3 := fadd_ok (K := K + 3) (hp.mono (by omega)) (h2.2.mono (by omega)) (by omega)
  exact ⟨h1.1, h2.1, h3.1, h3.2⟩
theorem mix_any {K p q t : Nat} (w : World) (hp : Bd K p) (hq : Bd K q) (ht : Bd 0 t) (hK : K ≤ 100) :
    Calls Try.prog 81 #[.float .f32 p, .float .f32 q, .float .f32 t] w fun e w' => e = .returned (.float .f32 (mixB p q t)) ∧ w' = w := by
  obtain ⟨h1, h2, h3, _⟩ := mixB_ok hp hq ht hK
  have q1 := fun (w : World) => run_float_arith (P := Try.prog) w .sub 27 .f32 _ _ _ h1
  have q2 := fun (w : World) => run_float_arith (P := Try.prog) w .mul 27 .f32 _ _ _ h2
  have q3 := fun (w : World) => run_float_arith (P := Try.prog) w .add 27 .f32 _ _ _ h3
  clear h1 h2 h3 hp hq ht
  generalize mixB p q t = r at *
  generalize fmul (fsub q p) t = u at *
  generalize fsub q p = d at *
  go_enter Try.func81, Try.ntmps81
  go_wp2
  go_ret
  exact ⟨rfl, rfl⟩
/-- a spot between two -/
def mixP (a b : Nat × Nat) (t : Nat) : Nat × Nat := (mixB a.1 b.1 t, mixB a.2 b.2 t)
/-- the spots in the first and third quarter of each side -/
def cutL (l : List (Nat × Nat)) : Nat → List (Nat × Nat)
  | 0 => []
  | i + 1 => cutL l i ++ [mixP (l.getD i (0, 0)) (l.getD (i + 1) (0, 0)) 1048576000, mixP (l.getD i (0, 0)) (l.getD (i + 1) (0, 0)) 1061158912]
theorem cutL_length (l : List (Nat × Nat)) : ∀ i, (cutL l i).length = 2 * i
  | 0 => rfl
  | i + 1 => by rw [cutL, List.length_append, cutL_length l i]; rfl
/-- corners cut once -/
def cutO (l : List (Nat × Nat)) : List (Nat × Nat) := if l.length ≤ 1 then l else [l.getD 0 (0, 0)] ++ cutL l (l.length - 1) ++ [l.getD (l.length - 1) (0, 0)]
theorem cutO_length {l : List (Nat × Nat)} (h : 1 < l.length) : (cutO l).length = 2 * l.length := by
  unfold cutO
  rw [if_neg (by omega)]
  simp [cutL_length]
  omega
/-- corners cut so many times -/
def cutN (l : List (Nat × Nat)) : Nat → List (Nat × Nat)
  | 0 => l
  | n + 1 => cutO (cutN l n)
def SpB (K : Nat) (l : List (Nat × Nat)) : Prop := ∀ p, p ∈ l → Bd K p.1 ∧ Bd K p.2
theorem SpB.get {K : Nat} {l : List (Nat × Nat)} (h : SpB K l) (i : Nat) : Bd K (l.getD i (0, 0)).1 ∧ Bd K (l.getD i (0, 0)).2 := by
  by_cases hi : i < l.length
  · rw [show l.getD i (0, 0) = l[i] by simp [List.getD_eq_getElem?_getD, hi]]
    exact h _ (List.getElem_mem hi)
  · rw [show l.getD i (0, 0) = (0, 0) by simp [List.getD_eq_getElem?_getD, List.getElem?_eq_none (Nat.not_lt.1 hi)]]
    exact ⟨by unfold Bd; omega, by unfold Bd; omega⟩
theorem quart_bd : Bd 0 1048576000 ∧ Bd 0 1061158912 := by unfold Bd; decide
theorem cutL_bd {K : Nat} {l : List (Nat × Nat)} (h : SpB K l) (hK : K ≤ 100) : ∀ i, SpB (K + 5) (cutL l i)
  | 0 => fun p hp => by cases hp
  | i + 1 => fun p hp => by
    rw [cutL] at hp
    rcases List.mem_append.1 hp with h1 | h1
    · exact cutL_bd h hK i p h1
    · have a := h.get i
      have b := h.get (i + 1)
      simp only [List.mem_cons, List.not_mem_nil, or_false] at h1
      rcases h1 with rfl | rfl
      · exact ⟨(mixB_ok a.1 b.1 quart_bd.1 hK).2.2.2, (mixB_ok a.2 b.2 quart_bd.1 hK).2.2.2⟩
      · exact ⟨(mixB_ok a.1 b.1 quart_bd.2 hK).2.2.2, (mixB_ok a.2 b.2 quart_bd.2 hK).2.2.2⟩
theorem cutO_bd {K : Nat} {l : List (Nat × Nat)} (h : SpB K l) (hK : K ≤ 100) : SpB (K + 5) (cutO l) := by
  intro p hp
  unfold cutO at hp
  split at hp
  · exact ⟨(h p hp).1.mono (by omega), (h p hp).2.mono (by omega)⟩
  · rcases List.mem_append.1 hp with h1 | h1
    · rcases List.mem_append.1 h1 with h2 | h2
      · rw [List.mem_singleton.1 h2]
        exact ⟨(h.get 0).1.mono (by omega), (h.get 0).2.mono (by omega)⟩
      · exact cutL_bd h hK _ p h2
    · rw [List.mem_singleton.1 h1]
      exact ⟨(h.get _).1.mono (by omega), (h.get _).2.mono (by omega)⟩
theorem cutN_bd {l : List (Nat × Nat)} (h : SpB 24 l) : ∀ n, n ≤ 6 → SpB (24 + 5 * n) (cutN l n)
  | 0, _ => h
  | n + 1, hn => by
    have h1 := cutO_bd (cutN_bd h n (by omega)) (by omega)
    rw [show 24 + 5 * n + 5 = 24 + 5 * (n + 1) by omega] at h1
    exact h1
end Go.Proofs.Ytpgdinpckolfpaa

namespace Go.Proofs.Ytpgdinpckolfpaa
open Ieee

/-- a finite double of at most 2^K -/
def BdD (K b : Nat) : Prop := b % 9223372036854775808 ≤ (K + 1023) * 4503599627370496

theorem word_rungD {neg : Bool} {r : Nat} (h : r < 9223372036854775808) : double.word neg r % 9223372036854775808 = r := by
  unfold Format.word
  rw [double_sign]
  split <;> omega

theorem read_bdD {K b : Nat} (h : BdD K b) (hK : K ≤ 1023) : ∃ (s : Bool) (m k : Nat), double.read b = .number s m ((k : Int) - 1074) ∧ m * 2 ^ k ≤ 2 ^ (K + 1074) ∧ s = (b / 9223372036854775808 % 2 == 1) := by
  unfold BdD at h
  unfold Format.read
  simp only [double_sign, double_binade, double_inf, double_least]
  have hr : b % 9223372036854775808 < 9218868437227405312 := by omega
  by_cases h1 : b % 9223372036854775808 < 4503599627370496
  · rw [if_pos h1]
    refine ⟨_, b % 9223372036854775808, 0, rfl, ?_, rfl⟩
    have : (2 : Nat) ^ 52 ≤ 2 ^ (K + 1074) := Nat.pow_le_pow_right (by omega) (by omega)
    simp only [Nat.pow_zero, Nat.mul_one]
    omega
  · rw [if_neg h1, if_pos hr]
    generalize b % 9223372036854775808 = r at *
    refine ⟨_, 4503599627370496 + r % 4503599627370496, r / 4503599627370496 - 1, by rw [Int.add_comm (-1074)]; rfl, ?_, rfl⟩
    have hq : r / 4503599627370496 ≤ K + 1023 := by omega
    by_cases h2 : r / 4503599627370496 = K + 1023
    · have ht : r % 4503599627370496 = 0 := by omega
      rw [ht, h2]
      have e : (2 : Nat) ^ (52 + (K + 1022)) = 4503599627370496 * 2 ^ (K + 1022) := Nat.pow_add 2 52 (K + 1022)
      rw [show K + 1023 - 1 = K + 1022 by omega, show K + 1074 = 52 + (K + 1022) by omega, e]
      exact Nat.le_refl _
    · have hm : 4503599627370496 + r % 4503599627370496 ≤ 2 ^ 53 := by omega
      calc (4503599627370496 + r % 4503599627370496) * 2 ^ (r / 4503599627370496 - 1) ≤ 2 ^ 53 * 2 ^ (r / 4503599627370496 - 1) := Nat.mul_le_mul_right _ hm
        _ = 2 ^ (53 + (r / 4503599627370496 - 1)) := (Nat.pow_add ..).symm
        _ ≤ 2 ^ (K + 1074) := Nat.pow_le_pow_right (by omega) (by omega)

theorem write_bdD {K : Nat} {neg : Bool} {m k N : Nat} (h : m * 2 ^ k < 2 ^ (K + N)) (hK : K ≤ 1023) : BdD K (double.nearest neg m ((k : Int) - N)) := by
  unfold BdD Format.nearest
  by_cases hm : m = 0
  · rw [if_pos hm, word_rungD (by omega)]
    omega
  · rw [if_neg hm]
    have hl := log_lt hm h
    simp only [double_binade, double_inf, double_least, double_frac]
    have hc : ∀ last : Int, last = max ((k : Int) - N + m.log2 - 52) (-1074) → Toward.even.cut neg (m <<< ((k : Int) - N - last).toNat) (last - ((k : Int) - N)).toNat ≤ 2 ^ 53 := by
      intro last hlast
      refine cut_le ?_
      rw [log_shift hm]
      omega
    have := hc _ rfl
    rw [word_rungD (by omega)]
    have e : ((max ((k : Int) - N + m.log2 - (52 : Nat)) (-1074) - -1074).toNat) ≤ K + 1021 := by omega
    have := Nat.mul_le_mul_right 4503599627370496 e
    simp only [show ((52 : Nat) : Int) = 52 from rfl] at *
    omega
theorem near_falseD (m : Nat) (p : Int) : double.nearest false m p < 9223372036854775808 := by
  have hw : ∀ r, double.word false r = r := fun r => by unfold Format.word; rw [if_neg (by decide)]
  unfold Format.nearest
  split
  · rw [hw]
    omega
  · rw [hw]
    simp only [double_inf]
    omega
theorem bdD_inf {K b : Nat} (h : BdD K b) (hK : K ≤ 1023) : (double.read b).isInfinity = false := by
  refine not_inf ?_
  rw [double_sign, double_inf]
  unfold BdD at h
  omega
theorem bd_inf {K b : Nat} (h : Bd K b) (hK : K ≤ 127) : (single.read b).isInfinity = false := by
  refine not_inf ?_
  rw [single_sign, single_inf]
  unfold Bd at h
  omega
theorem sign_false {b : Nat} {s : Bool} {m : Nat} {p : Int} (h : b < 2147483648) (e : single.read b = .number s m p) : s = false := by
  unfold Format.read at e
  simp only [single_sign] at e
  have hs : (b / 2147483648 % 2 == 1) = false := by rw [Nat.div_eq_of_lt h]; rfl
  rw [hs] at e
  split at e
  · injection e with e; exact e.symm
  · split at e
    · injection e with e; exact e.symm
    · split at e <;> cases e

/-- a single made a double -/
theorem conv_up {K b : Nat} (h : Bd K b) (hK : K ≤ 127) : ∃ d, floatToFloatBits .f32 b .f64 = some d ∧ BdD (K + 1) d ∧ (b < 2147483648 → d < 9223372036854775808) := by
  obtain ⟨s, m, k, e, hm⟩ := read_bd h hK
  have hb : BdD (K + 1) (double.nearest s m ((k : Int) - (149 : Nat))) := write_bdD (Nat.lt_of_le_of_lt hm (Nat.pow_lt_pow_right (by omega) (by omega))) (by omega)
  refine ⟨double.nearest s m ((k : Int) - (149 : Nat)), ?_, hb, ?_⟩
  · unfold floatToFloatBits
    rw [if_neg (by decide)]
    show (match single.read b with | .nan _ _ => none | .infinity s => _ | .number s m e => _) = _
    rw [e]
    show (if (double.read (double.nearest s m ((k : Int) - (149 : Nat)))).isInfinity = true then none else some (double.nearest s m ((k : Int) - (149 : Nat)))) = _
    rw [bdD_inf hb (by omega), if_neg (by decide)]
  · intro hs
    rw [sign_false hs e]
    exact near_falseD _ _
/-- a double made a single -/
theorem conv_down {J d : Nat} (h : BdD J d) (hJ : J ≤ 126) : ∃ r, floatToFloatBits .f64 d .f32 = some r ∧ Bd (J + 1) r ∧ (d < 9223372036854775808 → r < 2147483648) := by
  obtain ⟨s, m, k, e, hm, hs⟩ := read_bdD h (by omega)
  have hb : Bd (J + 1) (single.nearest s m ((k : Int) - (1074 : Nat))) := write_bd (Nat.lt_of_le_of_lt hm (Nat.pow_lt_pow_right (by omega) (by omega))) (by omega)
  refine ⟨single.nearest s m ((k : Int) - (1074 : Nat)), ?_, hb, ?_⟩
  · unfold floatToFloatBits
    rw [if_neg (by decide)]
    show (match double.read d with | .nan _ _ => none | .infinity s => _ | .number s m e => _) = _
    rw [e]
    show (if (single.read (single.nearest s m ((k : Int) - (1074 : Nat)))).isInfinity = true then none else some (single.nearest s m ((k : Int) - (1074 : Nat)))) = _
    rw [bd_inf hb (by omega), if_neg (by decide)]
  · intro hd
    rw [Nat.div_eq_of_lt hd] at hs
    have hs' : s = false := hs
    rw [hs']
    exact near_false _ _

theorem rootFrom_lt (n : Nat) : ∀ (todo root : Nat), Datum.rootFrom n todo root < root + 2 ^ todo
  | 0, root => by simp [Datum.rootFrom]
  | todo + 1, root => by
    unfold Datum.rootFrom
    have h1 := rootFrom_lt n todo root
    have h2 := rootFrom_lt n todo (root + 2 ^ todo)
    have h3 : 2 ^ (todo + 1) = 2 ^ todo + 2 ^ todo := by rw [Nat.pow_succ]; omega
    have h4 : root + 1 <<< todo = root + 2 ^ todo := by rw [Nat.shiftLeft_eq, Nat.one_mul]
    have h5 := Nat.two_pow_pos todo
    simp only [h4]
    split
    · omega
    · omega
theorem root_num {m : Nat} {i : Int} {K : Nat} (hm : m ≠ 0) (hl : (m.log2 : Int) + i ≤ K) : ∃ M k N : Nat, (Datum.number false m i).root 54 = some (.number false M ((k : Int) - N)) ∧ M * 2 ^ k < 2 ^ (K + 3 + N) := by
  obtain ⟨more, hmore⟩ : ∃ more, 2 * 54 - m.log2 + ((i - (2 * 54 - m.log2 : Nat)) % 2).toNat = more := ⟨_, rfl⟩
  obtain ⟨p, hp⟩ : ∃ p : Int, (i - more) / 2 - 1 = p := ⟨_, rfl⟩
  have hw := rootFrom_lt (m <<< more) ((m <<< more).log2 / 2 + 1) 0
  have hlog : (m <<< more).log2 = m.log2 + more := log_shift hm
  obtain ⟨M, hM⟩ : ∃ M, 2 * Datum.rootFrom (m <<< more) ((m <<< more).log2 / 2 + 1) 0 + (Datum.rootFrom (m <<< more) ((m <<< more).log2 / 2 + 1) 0 * Datum.rootFrom (m <<< more) ((m <<< more).log2 / 2 + 1) 0 != m <<< more).toNat = M := ⟨_, rfl⟩
  refine ⟨M, p.toNat, (-p).toNat, ?_, ?_⟩
  · unfold Datum.root
    simp only [if_neg hm, Bool.false_eq_true, if_false]
    rw [hmore, hM, hp, show ((p.toNat : Nat) : Int) - ((-p).toNat : Nat) = p by omega]
  · have hb : ∀ b : Bool, b.toNat ≤ 1 := fun b => by cases b <;> simp
    have hb' := hb (Datum.rootFrom (m <<< more) ((m <<< more).log2 / 2 + 1) 0 * Datum.rootFrom (m <<< more) ((m <<< more).log2 / 2 + 1) 0 != m <<< more)
    generalize (Datum.rootFrom (m <<< more) ((m <<< more).log2 / 2 + 1) 0 * Datum.rootFrom (m <<< more) ((m <<< more).log2 / 2 + 1) 0 != m <<< more).toNat = z at *
    generalize Datum.rootFrom (m <<< more) ((m <<< more).log2 / 2 + 1) 0 = R at *
    rw [hlog] at hw
    have h1 : M < 2 ^ ((m.log2 + more) / 2 + 2) := by
      have h3 : 2 ^ ((m.log2 + more) / 2 + 2) = 2 * 2 ^ ((m.log2 + more) / 2 + 1) := by rw [Nat.pow_succ, Nat.mul_comm]
      omega
    have h2 : M * 2 ^ p.toNat < 2 ^ ((m.log2 + more) / 2 + 2 + p.toNat) := by rw [Nat.pow_add]; exact (Nat.mul_lt_mul_right (Nat.two_pow_pos _)).2 h1
    exact Nat.lt_of_lt_of_le h2 (Nat.pow_le_pow_right (by omega) (by omega))

/-- float32(math.Sqrt(float64(b))) -/
def rootB (b : Nat) : Nat := ((floatToFloatBits .f32 b .f64).bind fun d => (double.sqrt d).bind fun r => floatToFloatBits .f64 r .f32).getD 0
theorem root_okD {K b : Nat} (hb : Bd K b) (hs : b < 2147483648) (hK : K ≤ 110) :
    ∃ d r, floatToFloatBits .f32 b .f64 = some d ∧ double.sqrt d = some r ∧ floatToFloatBits .f64 r .f32 = some (rootB b) ∧ Bd (K + 7) (rootB b) ∧ rootB b < 2147483648 ∧ BdD (K + 5) r := by
  obtain ⟨d, h1, h2, h3⟩ := conv_up hb (by omega)
  have hd := h3 hs
  obtain ⟨s, m, k, e, hm, hsg⟩ := read_bdD h2 (by omega)
  rw [Nat.div_eq_of_lt hd] at hsg
  obtain rfl : s = false := hsg
  have key : ∃ r, double.sqrt d = some r ∧ BdD (K + 5) r ∧ r < 9223372036854775808 := by
    unfold Format.sqrt
    rw [e, double_frac]
    by_cases h0 : m = 0
    · subst h0
      refine ⟨double.nearest false 0 ((k : Int) - (1074 : Nat)), ?_, write_bdD (by rw [Nat.zero_mul]; exact Nat.two_pow_pos _) (by omega), near_falseD _ _⟩
      rfl
    · have hl := log_lt h0 (show m * 2 ^ k < 2 ^ (K + 1 + 1074 + 1) from Nat.lt_of_le_of_lt hm (Nat.pow_lt_pow_right (by omega) (by omega)))
      obtain ⟨M, k', N, er, hM⟩ := root_num (m := m) (i := (k : Int) - 1074) (K := K + 1) h0 (by omega)
      refine ⟨double.nearest false M ((k' : Int) - N), ?_, write_bdD (Nat.lt_of_lt_of_le hM (Nat.pow_le_pow_right (by omega) (by omega))) (by omega), near_falseD _ _⟩
      show (Datum.root 54 _).map double.write = _
      rw [er]
      rfl
  obtain ⟨r, h4, h5, h6⟩ := key
  obtain ⟨q, h7, h8, h9⟩ := conv_down h5 (by omega)
  have e2 : rootB b = q := by
    unfold rootB
    rw [h1]
    show ((double.sqrt d).bind fun r => floatToFloatBits .f64 r .f32).getD 0 = q
    rw [h4]
    show (floatToFloatBits .f64 r .f32).getD 0 = q
    rw [h7]
    rfl
  rw [e2]
  exact ⟨d, r, h1, h4, h7, h8.mono (by omega), h9 h6, h5⟩

theorem root_ok {K b : Nat} (hb : Bd K b) (hs : b < 2147483648) (hK : K ≤ 110) :
    ∃ d r, floatToFloatBits .f32 b .f64 = some d ∧ double.sqrt d = some r ∧ floatToFloatBits .f64 r .f32 = some (rootB b) ∧ Bd (K + 7) (rootB b) ∧ rootB b < 2147483648 := by
  obtain ⟨d, r, h1, h2, h3, h4, h5, _⟩ := root_okD hb hs hK
  exact ⟨d, r, h1, h2, h3, h4, h5⟩

/-! ### signs -/
theorem square_nonneg {K x r : Nat} (hx : Bd K x) (hK : K ≤ 127) (h : single.mul x x = some r) : r < 2147483648 := by
  obtain ⟨s, m, k, e, _⟩ := read_bd hx hK
  unfold Format.mul at h
  rw [e] at h
  simp only [Datum.product, Option.map_some, Bool.xor_self, Option.some.injEq] at h
  rw [← h]
  exact near_false _ _
theorem sum_nonneg {K x y r : Nat} (hx : Bd K x) (hy : Bd K y) (hK : K ≤ 127) (sx : x < 2147483648) (sy : y < 2147483648) (h : single.add x y = some r) : r < 2147483648 := by
  obtain ⟨s, m, k, e, _⟩ := read_bd hx hK
  obtain ⟨t, n, j, e2, _⟩ := read_bd hy hK
  obtain rfl := sign_false sx e
  obtain rfl := sign_false sy e2
  unfold Format.add at h
  rw [e, e2] at h
  simp only [Datum.sum, Option.map_some, Option.some.injEq] at h
  rw [← h]
  have h1 := signed_false m ((k : Int) - 149 - min ((k : Int) - 149) ((j : Int) - 149)).toNat
  have h2 := signed_false n ((j : Int) - 149 - min ((k : Int) - 149) ((j : Int) - 149)).toNat
  generalize signed false m ((k : Int) - 149 - min ((k : Int) - 149) ((j : Int) - 149)).toNat = A at *
  generalize signed false n ((j : Int) - 149 - min ((k : Int) - 149) ((j : Int) - 149)).toNat = B at *
  have h3 : (if A + B = 0 then false && false else decide (A + B < 0)) = false := by
    split
    · rfl
    · exact decide_eq_false (by omega)
  show single.nearest (if A + B = 0 then false && false else decide (A + B < 0)) _ _ < _
  rw [h3]
  exact near_false _ _

/-! ### thresholds that are powers of two -/
theorem read_pow {j : Nat} (h1 : 1 ≤ j) (h2 : j ≤ 254) : single.read (j * 8388608) = .number false 8388608 (((j - 1 : Nat) : Int) - 149) := by
  unfold Format.read
  simp only [single_sign, single_binade, single_inf, single_least]
  have e : j * 8388608 % 2147483648 = j * 8388608 := Nat.mod_eq_of_lt (by omega)
  have e2 : (j * 8388608 / 2147483648 % 2 == 1) = false := by rw [Nat.div_eq_of_lt (by omega)]; rfl
  rw [e, e2, if_neg (by omega), if_pos (by omega)]
  congr 1 <;> omega
theorem read_under {j a : Nat} (h1 : 1 ≤ j) (h2 : j ≤ 254) (h : a % 2147483648 < j * 8388608) : ∃ (s : Bool) (m k : Nat), single.read a = .number s m ((k : Int) - 149) ∧ m * 2 ^ k < 2 ^ (22 + j) := by
  unfold Format.read
  simp only [single_sign, single_binade, single_inf, single_least]
  generalize a % 2147483648 = r at *
  by_cases h3 : r < 8388608
  · rw [if_pos h3]
    refine ⟨_, r, 0, rfl, ?_⟩
    have : (2 : Nat) ^ 23 ≤ 2 ^ (22 + j) := Nat.pow_le_pow_right (by omega) (by omega)
    simp only [Nat.pow_zero, Nat.mul_one]
    omega
  · rw [if_neg h3, if_pos (by omega)]
    refine ⟨_, 8388608 + r % 8388608, r / 8388608 - 1, by rw [Int.add_comm (-149)]; rfl, ?_⟩
    have hm : 8388608 + r % 8388608 < 2 ^ 24 := by omega
    have h4 : (8388608 + r % 8388608) * 2 ^ (r / 8388608 - 1) < 2 ^ (24 + (r / 8388608 - 1)) := by rw [Nat.pow_add]; exact (Nat.mul_lt_mul_right (Nat.two_pow_pos _)).2 hm
    exact Nat.lt_of_lt_of_le h4 (Nat.pow_le_pow_right (by omega) (by omega))
theorem ge_of_not_lt {a j : Nat} (h1 : 1 ≤ j) (h2 : j ≤ 254) (h : lt a (j * 8388608) = false) : j * 8388608 ≤ a % 2147483648 := by
  rcases Nat.lt_or_ge (a % 2147483648) (j * 8388608) with h3 | h3
  · obtain ⟨s, m, k, e, hm⟩ := read_under h1 h2 h3
    have ho := ord_val e (read_pow h1 h2)
    have hc : compare (signed s m k) (signed false 8388608 (j - 1)) = .lt := by
      rw [Int.compare_eq_lt]
      have e3 : signed false 8388608 (j - 1) = ((2 ^ (22 + j) : Nat) : Int) := by
        unfold signed
        rw [if_neg (by decide), Nat.shiftLeft_eq]
        congr 1
        have : (2 : Nat) ^ (23 + (j - 1)) = 8388608 * 2 ^ (j - 1) := Nat.pow_add 2 23 (j - 1)
        rw [← this]
        congr 1
        omega
      have e4 := signed_abs s m k
      rw [e3]
      omega
    rw [hc] at ho
    have := lt_ord.2 ho
    rw [this] at h
    cases h
  · exact h3

/-! ### quotients by what is not too small -/
def GeJ (j b : Nat) : Prop := j * 8388608 ≤ b % 2147483648 ∧ b % 2147483648 < 2139095040
theorem read_geJ {j b : Nat} (hj : 1 ≤ j) (h : GeJ j b) : ∃ (s : Bool) (m k : Nat), single.read b = .number s m ((k : Int) - 149) ∧ 2 ^ (22 + j) ≤ m * 2 ^ k ∧ m ≠ 0 := by
  obtain ⟨h, hi⟩ := h
  unfold Format.read
  simp only [single_sign, single_binade, single_inf, single_least]
  rw [if_neg (by omega), if_pos hi]
  generalize b % 2147483648 = r at *
  refine ⟨_, 8388608 + r % 8388608, r / 8388608 - 1, by rw [Int.add_comm (-149)]; rfl, ?_, by omega⟩
  have e : (2 : Nat) ^ (23 + (r / 8388608 - 1)) = 8388608 * 2 ^ (r / 8388608 - 1) := Nat.pow_add 2 23 _
  have h1 : (2 : Nat) ^ (22 + j) ≤ 2 ^ (23 + (r / 8388608 - 1)) := Nat.pow_le_pow_right (by omega) (by omega)
  have h2 : 8388608 * 2 ^ (r / 8388608 - 1) ≤ (8388608 + r % 8388608) * 2 ^ (r / 8388608 - 1) := Nat.mul_le_mul_right _ (by omega)
  omega
theorem fdiv_geJ {K x y j : Nat} (hx : Bd K x) (hj : 1 ≤ j) (hj2 : j ≤ 127) (hy : GeJ j y) (hK : K + (127 - j) ≤ 120) : ∃ r, single.div x y = some r ∧ Bd (K + (127 - j) + 2) r := by
  obtain ⟨s, m, k, e1, h1⟩ := read_bd hx (by omega)
  obtain ⟨t, n, i, e2, h2, hn⟩ := read_geJ hj hy
  obtain ⟨g, hg⟩ : ∃ g, 127 - j = g := ⟨_, rfl⟩
  rw [hg] at hK ⊢
  unfold Format.div
  rw [e1, e2]
  simp only [Datum.quotient, if_neg hn]
  refine ⟨_, rfl, ?_⟩
  simp only [Format.write, single_frac]
  generalize hmore : 23 + 2 + n.log2 - m.log2 = more
  rw [show ((k : Int) - 149 - ((i : Int) - 149) - more - 1) = (k : Int) - ((i + more + 1 : Nat) : Int) by omega]
  refine write_bd ?_ (by omega)
  rw [Nat.shiftLeft_eq]
  by_cases hm : m = 0
  · subst hm
    simp only [Nat.zero_mul, Nat.zero_div, Nat.zero_mod, Nat.mul_zero, Nat.zero_add]
    show 0 * 2 ^ k < _
    rw [Nat.zero_mul]
    exact Nat.two_pow_pos _
  have hb : ∀ b : Bool, b.toNat ≤ 1 := fun b => by cases b <;> simp
  have hb' := hb (m * 2 ^ more % n != 0)
  refine Nat.lt_of_mul_lt_mul_left (a := n) ?_
  have hq : n * (m * 2 ^ more / n) ≤ m * 2 ^ more := Nat.mul_div_le _ _
  have h3 : n * ((2 * (m * 2 ^ more / n) + (m * 2 ^ more % n != 0).toNat) * 2 ^ k) ≤ (2 * (m * 2 ^ more) + n) * 2 ^ k := by
    rw [← Nat.mul_assoc]
    refine Nat.mul_le_mul_right _ ?_
    rw [Nat.mul_add]
    have h5 : n * (m * 2 ^ more % n != 0).toNat ≤ n * 1 := Nat.mul_le_mul_left _ hb'
    have h6 : n * (2 * (m * 2 ^ more / n)) = 2 * (n * (m * 2 ^ more / n)) := Nat.mul_left_comm ..
    omega
  refine Nat.lt_of_le_of_lt h3 ?_
  rw [Nat.add_mul]
  have a1 : 2 * (m * 2 ^ more) * 2 ^ k = (m * 2 ^ k) * 2 ^ (more + 1) := by rw [Nat.pow_succ]; simp only [Nat.mul_assoc, Nat.mul_left_comm, Nat.mul_comm]
  have a2 : (m * 2 ^ k) * 2 ^ (more + 1) ≤ 2 ^ (K + 149) * 2 ^ (more + 1) := Nat.mul_le_mul_right _ h1
  have a3 : 2 ^ (K + 149) * 2 ^ (more + 1) = 2 ^ (22 + j) * 2 ^ (K + g + more + 1) := by rw [← Nat.pow_add, ← Nat.pow_add]; congr 1; omega
  have a4 : 2 ^ (22 + j) * 2 ^ (K + g + more + 1) ≤ n * 2 ^ i * 2 ^ (K + g + more + 1) := Nat.mul_le_mul_right _ h2
  have a5 : n * 2 ^ i * 2 ^ (K + g + more + 1) = n * 2 ^ (K + g + i + more + 1) := by rw [Nat.mul_assoc, ← Nat.pow_add]; congr 2; omega
  have b1 : k ≤ K + g + i + more + 1 := by
    have hl := log_lt hm (show m * 2 ^ k < 2 ^ (K + 150) from Nat.lt_of_le_of_lt h1 (Nat.pow_lt_pow_right (by omega) (by omega)))
    have hg := log_ge h2
    omega
  have b2 : n * 2 ^ k ≤ n * 2 ^ (K + g + i + more + 1) := Nat.mul_le_mul_left _ (Nat.pow_le_pow_right (by omega) b1)
  have c1 : n * 2 ^ (K + g + 2 + (i + more + 1)) = 4 * (n * 2 ^ (K + g + i + more + 1)) := by
    rw [show K + g + 2 + (i + more + 1) = 2 + (K + g + i + more + 1) by omega, Nat.pow_add, Nat.mul_left_comm]
  have c2 : 0 < n * 2 ^ (K + g + i + more + 1) := Nat.mul_pos (by omega) (Nat.two_pow_pos _)
  omega
end Go.Proofs.Ytpgdinpckolfpaa

namespace Go.Proofs.Ytpgdinpckolfpaa
open Ieee
theorem ord_le {K b c n j : Nat} (h : Bd K b) (hK : K ≤ 127) (hc : single.read c = .number false n ((j : Int) - 149)) (hn : 2 ^ (K + 149) ≤ n * 2 ^ j) : ord b c = some .lt ∨ ord b c = some .eq := by
  obtain ⟨s, m, k, e, hm⟩ := read_bd h hK
  rw [ord_val e hc]
  have h1 := signed_abs s m k
  have h2 := signed_abs false n j
  have h3 := signed_false n j
  rcases Int.lt_trichotomy (signed s m k) (signed false n j) with h | h | h
  · left; rw [Int.compare_eq_lt.2 h]
  · right; rw [Int.compare_eq_eq.2 h]
  · exfalso; omega
theorem ord_ge {K b c n j : Nat} (h : Bd K b) (hK : K ≤ 127) (hc : single.read c = .number true n ((j : Int) - 149)) (hn : 2 ^ (K + 149) ≤ n * 2 ^ j) : ord b c = some .gt ∨ ord b c = some .eq := by
  obtain ⟨s, m, k, e, hm⟩ := read_bd h hK
  rw [ord_val e hc]
  have h1 := signed_abs s m k
  have h2 := signed_abs true n j
  have h3 : signed true n j ≤ 0 := by
    unfold signed
    rw [if_pos rfl]
    omega
  rcases Int.lt_trichotomy (signed s m k) (signed true n j) with h | h | h
  · exfalso; omega
  · right; rw [Int.compare_eq_eq.2 h]
  · left; rw [Int.compare_eq_gt.2 h]
theorem bd_hgt {K b : Nat} (h : Bd K b) (hK : K ≤ 20) : hgtB b = true := by
  have h' := h.mono hK
  unfold hgtB
  rcases ord_le h' (by omega) (show single.read 1233125376 = .number false 8388608 (((146 : Nat) : Int) - 149) by decide +kernel) (by decide) with a | a <;>
  rcases ord_ge h' (by omega) (show single.read 3380609024 = .number true 8388608 (((146 : Nat) : Int) - 149) by decide +kernel) (by decide) with d | d <;> rw [a, d] <;> rfl
theorem bd_finB {K b : Nat} (h : Bd K b) (hK : K ≤ 100) : finB b = true := by
  have h' := h.mono hK
  unfold finB
  rcases ord_le h' (by omega) (show single.read 2139095039 = .number false 16777215 (((253 : Nat) : Int) - 149) by decide +kernel) (by decide) with a | a <;>
  rcases ord_ge h' (by omega) (show single.read 4286578687 = .number true 16777215 (((253 : Nat) : Int) - 149) by decide +kernel) (by decide) with d | d <;> rw [a, d] <;> rfl
end Go.Proofs.Ytpgdinpckolfpaa

namespace Go.Proofs.Ytpgdinpckolfpaa
open Ieee

/-- a rung below infinity, read -/
theorem read_word_single {s : Bool} {m0 : Nat} {q : Nat} (h1 : m0 < 2 * 8388608) (h2 : q = 0 ∨ 8388608 ≤ m0) (h3 : q * 8388608 + m0 < 2139095040) : single.read (single.word s (q * 8388608 + m0)) = .number s m0 ((q : Int) - 149) := by
  have e1 : single.word s (q * 8388608 + m0) % 2147483648 = q * 8388608 + m0 := word_rung (by omega)
  have e2 : (single.word s (q * 8388608 + m0) / 2147483648 % 2 == 1) = s := by
    unfold Format.word
    rw [single_sign]
    cases s
    · rw [if_neg (by decide), Nat.div_eq_of_lt (by omega)]; rfl
    · rw [if_pos rfl, Nat.add_comm, Nat.add_div_right _ (by omega), Nat.div_eq_of_lt (by omega)]; rfl
  unfold Format.read
  simp only [single_sign, single_binade, single_inf, single_least, e1, e2]
  by_cases h4 : q * 8388608 + m0 < 8388608
  · rw [if_pos h4]
    obtain rfl : q = 0 := by omega
    congr 1 <;> omega
  · rw [if_neg h4, if_pos h3]
    rcases h2 with rfl | h2
    · congr 1 <;> omega
    · congr 1 <;> omega
theorem single_exact (s : Bool) {mag m : Nat} {P i : Int} (hm : m ≠ 0) (hl : m.log2 ≤ 23) (hP : -1200 ≤ P) (hi : -149 ≤ i) (hu : (m.log2 : Int) + i ≤ 127) (hv : mag * 2 ^ (P + 1200).toNat = m * 2 ^ (i + 1200).toNat) :
    ∃ M j : Nat, single.read (single.nearest s mag P) = .number s M ((j : Int) - 149) ∧ M * 2 ^ j = m * 2 ^ (i + 149).toNat := by
  obtain ⟨p0, hp0⟩ : ∃ p0 : Int, max (i + m.log2 - 23) (-149) = p0 := ⟨_, rfl⟩
  obtain ⟨d, hd⟩ : ∃ d : Nat, (i - p0).toNat = d := ⟨_, rfl⟩
  have hlog : (m * 2 ^ d).log2 = m.log2 + d := by rw [← Nat.shiftLeft_eq]; exact log_shift hm
  have hm0 : m * 2 ^ d ≠ 0 := Nat.mul_ne_zero hm (Nat.pos_iff_ne_zero.1 (Nat.two_pow_pos _))
  obtain ⟨q, hq⟩ : ∃ q : Nat, (p0 + 149).toNat = q := ⟨_, rfl⟩
  have hlt : m * 2 ^ d < 2 * 8388608 := by
    have h1 := (Nat.log2_lt hm0 (k := 24)).1 (by omega)
    exact h1
  have hge : q = 0 ∨ 8388608 ≤ m * 2 ^ d := by
    rcases Nat.eq_zero_or_pos q with h | h
    · exact .inl h
    · right
      have h1 := Nat.log2_self_le hm0
      have h2 : (2 : Nat) ^ 23 ≤ 2 ^ (m * 2 ^ d).log2 := Nat.pow_le_pow_right (by omega) (by omega)
      have h3 : (2 : Nat) ^ 23 = 8388608 := by decide
      omega
  have hinf : q * 8388608 + m * 2 ^ d < 2139095040 := by
    have h1 : q ≤ 253 := by omega
    have h2 := Nat.mul_le_mul_right 8388608 h1
    omega
  have h1 := exact_nearest single s (mag := mag) (m0 := m * 2 ^ d) (a := (P + 1200).toNat) (b := (p0 + 1200).toNat) (c := -1200) (p0 := p0) (r := q * 8388608 + m * 2 ^ d) hm0
    (by rw [hv, Nat.mul_assoc, ← Nat.pow_add]; congr 2; omega) (by omega) (by rw [hlog, single_frac, single_least]; omega) (by rw [single_least, single_binade]; congr 2 <;> omega) (by rw [single_inf]; omega)
  rw [show -1200 + (((P + 1200).toNat : Nat) : Int) = P by omega] at h1
  rw [h1]
  generalize hM : m * 2 ^ d = M0 at *
  refine ⟨M0, q, read_word_single hlt hge hinf, ?_⟩
  rw [← hM, Nat.mul_assoc, ← Nat.pow_add]
  congr 2
  omega
theorem single_zero (s : Bool) (P : Int) : single.read (single.nearest s 0 P) = .number s 0 (((0 : Nat) : Int) - 149) := by
  have h := read_word_single (s := s) (m0 := 0) (q := 0) (by omega) (.inl rfl) (by omega)
  unfold Format.nearest
  rw [if_pos rfl]
  rw [Nat.zero_mul, Nat.zero_add] at h
  exact h

/-- a rung below infinity, read -/
theorem read_word_double {s : Bool} {m0 : Nat} {q : Nat} (h1 : m0 < 2 * 4503599627370496) (h2 : q = 0 ∨ 4503599627370496 ≤ m0) (h3 : q * 4503599627370496 + m0 < 9218868437227405312) : double.read (double.word s (q * 4503599627370496 + m0)) = .number s m0 ((q : Int) - 1074) := by
  have e1 : double.word s (q * 4503599627370496 + m0) % 9223372036854775808 = q * 4503599627370496 + m0 := word_rungD (by omega)
  have e2 : (double.word s (q * 4503599627370496 + m0) / 9223372036854775808 % 2 == 1) = s := by
    unfold Format.word
    rw [double_sign]
    cases s
    · rw [if_neg (by decide), Nat.div_eq_of_lt (by omega)]; rfl
    · rw [if_pos rfl, Nat.add_comm, Nat.add_div_right _ (by omega), Nat.div_eq_of_lt (by omega)]; rfl
  unfold Format.read
  simp only [double_sign, double_binade, double_inf, double_least, e1, e2]
  by_cases h4 : q * 4503599627370496 + m0 < 4503599627370496
  · rw [if_pos h4]
    obtain rfl : q = 0 := by omega
    congr 1 <;> omega
  · rw [if_neg h4, if_pos h3]
    rcases h2 with rfl | h2
    · congr 1 <;> omega
    · congr 1 <;> omega
theorem double_exact (s : Bool) {mag m : Nat} {P i : Int} (hm : m ≠ 0) (hl : m.log2 ≤ 52) (hP : -1200 ≤ P) (hi : -1074 ≤ i) (hu : (m.log2 : Int) + i ≤ 1023) (hv : mag * 2 ^ (P + 1200).toNat = m * 2 ^ (i + 1200).toNat) :
    ∃ M j : Nat, double.read (double.nearest s mag P) = .number s M ((j : Int) - 1074) ∧ M * 2 ^ j = m * 2 ^ (i + 1074).toNat := by
  obtain ⟨p0, hp0⟩ : ∃ p0 : Int, max (i + m.log2 - 52) (-1074) = p0 := ⟨_, rfl⟩
  obtain ⟨d, hd⟩ : ∃ d : Nat, (i - p0).toNat = d := ⟨_, rfl⟩
  have hlog : (m * 2 ^ d).log2 = m.log2 + d := by rw [← Nat.shiftLeft_eq]; exact log_shift hm
  have hm0 : m * 2 ^ d ≠ 0 := Nat.mul_ne_zero hm (Nat.pos_iff_ne_zero.1 (Nat.two_pow_pos _))
  obtain ⟨q, hq⟩ : ∃ q : Nat, (p0 + 1074).toNat = q := ⟨_, rfl⟩
  have hlt : m * 2 ^ d < 2 * 4503599627370496 := by
    have h1 := (Nat.log2_lt hm0 (k := 53)).1 (by omega)
    exact h1
  have hge : q = 0 ∨ 4503599627370496 ≤ m * 2 ^ d := by
    rcases Nat.eq_zero_or_pos q with h | h
    · exact .inl h
    · right
      have h1 := Nat.log2_self_le hm0
      have h2 : (2 : Nat) ^ 52 ≤ 2 ^ (m * 2 ^ d).log2 := Nat.pow_le_pow_right (by omega) (by omega)
      have h3 : (2 : Nat) ^ 52 = 4503599627370496 := by decide
      omega
  have hinf : q * 4503599627370496 + m * 2 ^ d < 9218868437227405312 := by
    have h1 : q ≤ 2045 := by omega
    have h2 := Nat.mul_le_mul_right 4503599627370496 h1
    omega
  have h1 := exact_nearest double s (mag := mag) (m0 := m * 2 ^ d) (a := (P + 1200).toNat) (b := (p0 + 1200).toNat) (c := -1200) (p0 := p0) (r := q * 4503599627370496 + m * 2 ^ d) hm0
    (by rw [hv, Nat.mul_assoc, ← Nat.pow_add]; congr 2; omega) (by omega) (by rw [hlog, double_frac, double_least]; omega) (by rw [double_least, double_binade]; congr 2 <;> omega) (by rw [double_inf]; omega)
  rw [show -1200 + (((P + 1200).toNat : Nat) : Int) = P by omega] at h1
  rw [h1]
  generalize hM : m * 2 ^ d = M0 at *
  refine ⟨M0, q, read_word_double hlt hge hinf, ?_⟩
  rw [← hM, Nat.mul_assoc, ← Nat.pow_add]
  congr 2
  omega
theorem double_zero (s : Bool) (P : Int) : double.read (double.nearest s 0 P) = .number s 0 (((0 : Nat) : Int) - 1074) := by
  have h := read_word_double (s := s) (m0 := 0) (q := 0) (by omega) (.inl rfl) (by omega)
  unfold Format.nearest
  rw [if_pos rfl]
  rw [Nat.zero_mul, Nat.zero_add] at h
  exact h
end Go.Proofs.Ytpgdinpckolfpaa

namespace Go.Proofs.Ytpgdinpckolfpaa
open Ieee

theorem ordD_val {x y : Nat} {s t : Bool} {m n k j : Nat} (hx : double.read x = .number s m ((k : Int) - 1074)) (hy : double.read y = .number t n ((j : Int) - 1074)) : double.order x y = some (compare (signed s m k) (signed t n j)) := by
  unfold Format.order
  rw [hx, hy]
  simp only [Datum.order]
  have e : min ((k : Int) - 1074) ((j : Int) - 1074) = ((min k j : Nat) : Int) - (1074 : Nat) := by omega
  rw [e, show ((k : Int) - 1074 - (((min k j : Nat) : Int) - (1074 : Nat))).toNat = k - min k j by omega, show ((j : Int) - 1074 - (((min k j : Nat) : Int) - (1074 : Nat))).toNat = j - min k j by omega]
  have h1 : signed s m k = signed s m (k - min k j) * ((2 ^ min k j : Nat) : Int) := by rw [← signed_scale, Nat.sub_add_cancel (Nat.min_le_left k j)]
  have h2 : signed t n j = signed t n (j - min k j) * ((2 ^ min k j : Nat) : Int) := by rw [← signed_scale, Nat.sub_add_cancel (Nat.min_le_right k j)]
  have hc : 0 < ((2 ^ min k j : Nat) : Int) := by have := Nat.two_pow_pos (min k j); omega
  rw [h1, h2, cmp_scale hc]

/-- what a single that is no NaN stands for -/
theorem cls {q : Nat} (h : nanB q = false) : (∃ s, single.read q = .infinity s) ∨ (∃ s, single.read q = .number s 0 (((0 : Nat) : Int) - 149)) ∨
    ∃ (s : Bool) (m k : Nat), single.read q = .number s m ((k : Int) - 149) ∧ m ≠ 0 ∧ m.log2 ≤ 23 ∧ k ≤ 253 := by
  rcases Nat.lt_or_ge (q % 2147483648) 2139095040 with h1 | h1
  · by_cases h0 : q % 2147483648 = 0
    · right; left
      unfold Format.read
      simp only [single_sign, single_binade, single_inf, single_least]
      rw [h0, if_pos (by omega)]
      exact ⟨_, rfl⟩
    · obtain ⟨s, m, k, e, hm, hl, hk, _⟩ := read_num h1 h0
      exact .inr (.inr ⟨s, m, k, e, hm, hl, hk⟩)
  · left
    have e : (single.read q).isNaN = false := h
    unfold Format.read at *
    simp only [single_sign, single_binade, single_inf, single_least] at *
    rw [if_neg (by omega), if_neg (by omega)] at *
    by_cases h2 : q % 2147483648 = 2139095040
    · rw [if_pos h2]
      exact ⟨_, rfl⟩
    · rw [if_neg h2] at e
      cases e

theorem up_exact {q : Nat} {s : Bool} {m k : Nat} (e : single.read q = .number s m ((k : Int) - 149)) (hm : m ≠ 0) (hl : m.log2 ≤ 23) (hk : k ≤ 253) :
    ∃ d M j : Nat, floatToFloatBits .f32 q .f64 = some d ∧ double.read d = .number s M ((j : Int) - 1074) ∧ M * 2 ^ j = m * 2 ^ (k + 925) := by
  obtain ⟨M, j, h1, h2⟩ := double_exact s (mag := m) (m := m) (P := (k : Int) - 149) (i := (k : Int) - 149) hm (by omega) (by omega) (by omega) (by omega) rfl
  refine ⟨double.nearest s m ((k : Int) - 149), M, j, ?_, h1, ?_⟩
  · unfold floatToFloatBits
    rw [if_neg (by decide)]
    show (match single.read q with | .nan _ _ => none | .infinity s => _ | .number s m e => _) = _
    rw [e]
    show (if (double.read (double.nearest s m ((k : Int) - 149))).isInfinity = true then none else some (double.nearest s m ((k : Int) - 149))) = _
    rw [h1, if_neg (fun h => by cases h)]
  · rw [h2]
    congr 2
    omega

/-- a whole number that a single holds, written as a double and made a single -/
theorem whole_exact (s : Bool) {c m i : Nat} (hm : m ≠ 0) (hl : m.log2 ≤ 23) (hu : m.log2 + i ≤ 127) (hc : c = m * 2 ^ i) :
    ∃ t M j : Nat, floatToFloatBits .f64 (double.nearest s c 0) .f32 = some t ∧ single.read t = .number s M ((j : Int) - 149) ∧ M * 2 ^ j = c * 2 ^ 149 := by
  subst hc
  obtain ⟨M, j, h1, h2⟩ := double_exact s (mag := m * 2 ^ i) (m := m) (P := 0) (i := (i : Int)) hm (by omega) (by omega) (by omega) (by omega) (by rw [Nat.mul_assoc, ← Nat.pow_add]; congr 2 <;> omega)
  obtain ⟨M', j', h3, h4⟩ := single_exact s (mag := M) (m := m) (P := (j : Int) - 1074) (i := (i : Int)) hm hl (by omega) (by omega) (by omega) (by
    rw [show ((j : Int) - 1074 + 1200).toNat = j + 126 by omega, Nat.pow_add, ← Nat.mul_assoc, h2, Nat.mul_assoc, ← Nat.pow_add]
    congr 2 <;> omega)
  refine ⟨single.nearest s M ((j : Int) - 1074), M', j', ?_, h3, ?_⟩
  · unfold floatToFloatBits
    rw [if_neg (by decide)]
    show (match double.read (double.nearest s (m * 2 ^ i) 0) with | .nan _ _ => none | .infinity s => _ | .number s m e => _) = _
    rw [h1]
    show (if (single.read (single.nearest s M ((j : Int) - 1074))).isInfinity = true then none else some (single.nearest s M ((j : Int) - 1074))) = _
    rw [h3, if_neg (fun h => by cases h)]
  · rw [h4, Nat.mul_assoc, ← Nat.pow_add]
    congr 2
theorem whole_zero (s : Bool) : ∃ t : Nat, floatToFloatBits .f64 (double.nearest s 0 0) .f32 = some t ∧ single.read t = .number s 0 (((0 : Nat) : Int) - 149) := by
  refine ⟨single.nearest s 0 (((0 : Nat) : Int) - 1074), ?_, single_zero s _⟩
  unfold floatToFloatBits
  rw [if_neg (by decide)]
  show (match double.read (double.nearest s 0 0) with | .nan _ _ => none | .infinity s => _ | .number s m e => _) = _
  rw [double_zero]
  show (if (single.read (single.nearest s 0 (((0 : Nat) : Int) - 1074))).isInfinity = true then none else some (single.nearest s 0 (((0 : Nat) : Int) - 1074))) = _
  rw [single_zero, if_neg (fun h => by cases h)]

/-- rounded down -/
theorem cut_down (s : Bool) {n drop : Nat} : Toward.down.cut s n drop = n / 2 ^ drop + (s && n % 2 ^ drop != 0).toNat := by
  unfold Toward.cut
  simp only [Nat.shiftLeft_eq, Nat.one_mul]
  rcases Nat.le_total drop (n.log2 + 2) with h | h
  · rw [Nat.min_eq_left h]
  · rw [Nat.min_eq_right h]
    have h1 : n < 2 ^ (n.log2 + 1) := Nat.lt_log2_self
    have h2 : n < 2 ^ (n.log2 + 2) := Nat.lt_of_lt_of_le h1 (Nat.pow_le_pow_right (by omega) (by omega))
    have h3 : n < 2 ^ drop := Nat.lt_of_lt_of_le h2 (Nat.pow_le_pow_right (by omega) h)
    rw [Nat.div_eq_of_lt h2, Nat.div_eq_of_lt h3, Nat.mod_eq_of_lt h2, Nat.mod_eq_of_lt h3]
theorem cut_val (s : Bool) {M j V T : Nat} (hV : M * 2 ^ j = V) : Toward.down.cut s (M <<< ((j : Int) - T).toNat) (-((j : Int) - T)).toNat = V / 2 ^ T + (s && V % 2 ^ T != 0).toNat := by
  rw [cut_down, Nat.shiftLeft_eq]
  have hp := Nat.two_pow_pos j
  rcases Nat.le_total T j with h | h
  · have e0 : j - T + T = j := Nat.sub_add_cancel h
    have e : V = M * 2 ^ (j - T) * 2 ^ T := by rw [← hV, Nat.mul_assoc, ← Nat.pow_add, e0]
    have e1 : (-((j : Int) - T)).toNat = 0 := by clear hV e hp; omega
    have e2 : ((j : Int) - T).toNat = j - T := by clear hV e hp; omega
    rw [e1, e2, Nat.pow_zero, Nat.div_one, Nat.mod_one, e, Nat.mul_div_cancel _ (Nat.two_pow_pos _), Nat.mul_mod_left]
  · have e : V = M * 2 ^ j := hV.symm
    have e0 : T - j + j = T := Nat.sub_add_cancel h
    have e2 : (2 : Nat) ^ T = 2 ^ (T - j) * 2 ^ j := by rw [← Nat.pow_add, e0]
    have e3 : ((j : Int) - T).toNat = 0 := by clear hV e e2 hp; omega
    have e4 : (-((j : Int) - T)).toNat = T - j := by clear hV e e2 hp; omega
    rw [e3, e4, Nat.pow_zero, Nat.mul_one, e, e2, Nat.mul_div_mul_right _ _ hp, Nat.mul_mod_mul_right]
    congr 2
    by_cases h0 : M % 2 ^ (T - j) = 0
    · rw [h0, Nat.zero_mul]
    · have h1 : M % 2 ^ (T - j) * 2 ^ j ≠ 0 := Nat.mul_ne_zero h0 (Nat.pos_iff_ne_zero.1 hp)
      rw [bne_iff_ne.2 h0, bne_iff_ne.2 h1]

def floorB (q : Nat) : Nat := ((floatToFloatBits .f32 q .f64).bind fun d => floatToFloatBits .f64 (double.write ((double.read d).integral .down)) .f32).getD 0
theorem floorB_eq {q d t : Nat} (h1 : floatToFloatBits .f32 q .f64 = some d) (h2 : floatToFloatBits .f64 (double.write ((double.read d).integral .down)) .f32 = some t) : floorB q = t := by
  unfold floorB
  rw [h1]
  show (floatToFloatBits .f64 (double.write ((double.read d).integral .down)) .f32).getD 0 = t
  rw [h2]
  rfl
/-- the whole number: pure -/
theorem floor_val (s : Bool) {m k C Md jd a b T : Nat} (hT : b + a = T) (hm : m ≠ 0) (h3 : Md * 2 ^ jd = m * 2 ^ (k + a)) (hC : Toward.down.cut s (Md <<< ((jd : Int) - T).toNat) (-((jd : Int) - T)).toNat = C) :
    (s = false → C = m * 2 ^ k / 2 ^ b) ∧ (s = true → C ≠ 0) ∧ (b ≤ k → C = m * 2 ^ (k - b)) ∧ C ≤ m * 2 ^ k / 2 ^ b + 1 := by
  have hv := cut_val s (T := T) h3
  rw [hC] at hv
  have e1 : m * 2 ^ (k + a) = m * 2 ^ k * 2 ^ a := by rw [Nat.pow_add, Nat.mul_assoc]
  have e2 : (2 : Nat) ^ T = 2 ^ b * 2 ^ a := by rw [← Nat.pow_add, hT]
  have hq : m * 2 ^ (k + a) / 2 ^ T = m * 2 ^ k / 2 ^ b := by rw [e1, e2, Nat.mul_div_mul_right _ _ (Nat.two_pow_pos _)]
  have hb : ∀ b : Bool, b.toNat ≤ 1 := fun b => by cases b <;> simp
  refine ⟨?_, ?_, ?_, ?_⟩
  · rintro rfl
    rw [hv, hq]
    rfl
  · rintro rfl h0
    rw [h0] at hv
    have hV : m * 2 ^ (k + a) ≠ 0 := Nat.mul_ne_zero hm (Nat.pos_iff_ne_zero.1 (Nat.two_pow_pos _))
    have h5 := Nat.div_add_mod (m * 2 ^ (k + a)) (2 ^ T)
    clear e1 e2 hq hC h3
    generalize m * 2 ^ (k + a) = V at *
    generalize 2 ^ T = D at *
    have h6 := Nat.add_eq_zero_iff.1 hv.symm
    by_cases h4 : V % D = 0
    · rw [h4, h6.1, Nat.mul_zero] at h5
      exact hV h5.symm
    · have h7 : (true && V % D != 0) = true := by simp [h4]
      rw [h7] at h6
      exact absurd h6.2 (by decide)
  · intro hk
    have e3 : m * 2 ^ (k + a) = m * 2 ^ (k - b) * 2 ^ T := by
      rw [Nat.mul_assoc, ← Nat.pow_add]
      congr 2
      clear hv hq e1 e2 hC h3
      omega
    rw [hv, e3, Nat.mul_div_cancel _ (Nat.two_pow_pos _), Nat.mul_mod_left]
    simp
  · have h8 := hb (s && m * 2 ^ (k + a) % 2 ^ T != 0)
    rw [hv, hq]
    clear hv hq e1 e2 hC h3
    generalize m * 2 ^ k / 2 ^ b = Q at *
    generalize (s && m * 2 ^ (k + a) % 2 ^ T != 0).toNat = z at *
    omega
theorem floor_rep {m k C b : Nat} (hm : m ≠ 0) (hl : m.log2 ≤ 23) (hk : k ≤ b + 104) (h0 : C ≠ 0) (h1 : b ≤ k → C = m * 2 ^ (k - b)) (h2 : C ≤ m * 2 ^ k / 2 ^ b + 1) :
    ∃ m' i', m' ≠ 0 ∧ m'.log2 ≤ 23 ∧ m'.log2 + i' ≤ 127 ∧ C = m' * 2 ^ i' := by
  rcases Nat.le_total b k with hk' | hk'
  · exact ⟨m, k - b, hm, hl, by omega, h1 hk'⟩
  · refine ⟨C, 0, h0, ?_, ?_, by rw [Nat.pow_zero, Nat.mul_one]⟩
    all_goals
      have hm24 : m < 2 ^ 24 := (Nat.log2_lt hm).1 (by omega)
      have h7 : C < 2 ^ 24 := by
        rcases Nat.eq_or_lt_of_le hk' with he | he
        · rw [h1 (by omega), he]
          simpa using hm24
        · have e3 : (2 : Nat) ^ b = 2 ^ (b - k) * 2 ^ k := by rw [← Nat.pow_add]; congr 1; omega
          rw [e3, Nat.mul_div_mul_right _ _ (Nat.two_pow_pos _)] at h2
          have h8 : m / 2 ^ (b - k) ≤ m / 2 := by
            refine Nat.div_le_div_left ?_ (by omega)
            have : (2 : Nat) ^ 1 ≤ 2 ^ (b - k) := Nat.pow_le_pow_right (by omega) (by omega)
            exact this
          omega
      have h9 := (Nat.log2_lt h0 (k := 24)).2 h7
      omega
theorem floor_num {q : Nat} {s : Bool} {m k : Nat} (e : single.read q = .number s m ((k : Int) - 149)) (hm : m ≠ 0) (hl : m.log2 ≤ 23) (hk : k ≤ 253) :
    ∃ d Md jd C M j : Nat, floatToFloatBits .f32 q .f64 = some d ∧ double.read d = .number s Md ((jd : Int) - 1074) ∧ Md * 2 ^ jd = m * 2 ^ (k + 925) ∧
      floatToFloatBits .f64 (double.write ((double.read d).integral .down)) .f32 = some (floorB q) ∧ single.read (floorB q) = .number s M ((j : Int) - 149) ∧ M * 2 ^ j = C * 2 ^ 149 ∧
      (s = false → C = m * 2 ^ k / 2 ^ 149) ∧ (s = true → C ≠ 0) := by
  obtain ⟨d, Md, jd, h1, h2, h3⟩ := up_exact e hm hl hk
  obtain ⟨C, hC⟩ : ∃ C, Toward.down.cut s (Md <<< ((jd : Int) - (1074 : Nat)).toNat) (-((jd : Int) - (1074 : Nat))).toNat = C := ⟨_, rfl⟩
  have hi : double.write ((double.read d).integral .down) = double.nearest s C 0 := by
    rw [h2]
    show double.nearest s (Toward.down.cut s (Md <<< ((jd : Int) - (1074 : Nat)).toNat) (-((jd : Int) - (1074 : Nat))).toNat) 0 = _
    rw [hC]
  obtain ⟨hpos, hneg, hbig, hle⟩ := floor_val s (b := 149) (a := 925) (T := 1074) rfl hm h3 hC
  by_cases h0 : C = 0
  · obtain ⟨t, z1, z2⟩ := whole_zero s
    rw [h0] at hi
    rw [← hi] at z1
    have et : floorB q = t := floorB_eq h1 z1
    refine ⟨d, Md, jd, 0, 0, 0, h1, h2, h3, by rw [et]; exact z1, by rw [et]; exact z2, by simp, fun h => by rw [← hpos h, h0], fun h => absurd h0 (hneg h)⟩
  · obtain ⟨m', i', r1, r2, r3, r4⟩ := floor_rep (b := 149) hm hl hk h0 hbig hle
    obtain ⟨t, M, j, w1, w2, w3⟩ := whole_exact s r1 r2 r3 r4
    rw [← hi] at w1
    have et : floorB q = t := floorB_eq h1 w1
    exact ⟨d, Md, jd, C, M, j, h1, h2, h3, by rw [et]; exact w1, by rw [et]; exact w2, w3, hpos, hneg⟩
end Go.Proofs.Ytpgdinpckolfpaa

namespace Go.Proofs.Ytpgdinpckolfpaa
open Ieee

theorem cut_zero (s : Bool) {n drop : Nat} : Toward.zero.cut s n drop = n / 2 ^ drop := by
  unfold Toward.cut
  simp only [Nat.shiftLeft_eq, Nat.one_mul, Bool.toNat_false, Nat.add_zero]
  rcases Nat.le_total drop (n.log2 + 2) with h | h
  · rw [Nat.min_eq_left h]
  · rw [Nat.min_eq_right h]
    have h1 : n < 2 ^ (n.log2 + 1) := Nat.lt_log2_self
    have h2 : n < 2 ^ (n.log2 + 2) := Nat.lt_of_lt_of_le h1 (Nat.pow_le_pow_right (by omega) (by omega))
    have h3 : n < 2 ^ drop := Nat.lt_of_lt_of_le h2 (Nat.pow_le_pow_right (by omega) h)
    rw [Nat.div_eq_of_lt h2, Nat.div_eq_of_lt h3]
theorem cut_zero_val (s : Bool) {M j V T : Nat} (hV : M * 2 ^ j = V) : Toward.zero.cut s (M <<< ((j : Int) - T).toNat) (-((j : Int) - T)).toNat = V / 2 ^ T := by
  rw [cut_zero, Nat.shiftLeft_eq]
  have hp := Nat.two_pow_pos j
  rcases Nat.le_total T j with h | h
  · have e0 : j - T + T = j := Nat.sub_add_cancel h
    have e : V = M * 2 ^ (j - T) * 2 ^ T := by rw [← hV, Nat.mul_assoc, ← Nat.pow_add, e0]
    have e1 : (-((j : Int) - T)).toNat = 0 := by clear hV e hp; omega
    have e2 : ((j : Int) - T).toNat = j - T := by clear hV e hp; omega
    rw [e1, e2, Nat.pow_zero, Nat.div_one, e, Nat.mul_div_cancel _ (Nat.two_pow_pos _)]
  · have e : V = M * 2 ^ j := hV.symm
    have e0 : T - j + j = T := Nat.sub_add_cancel h
    have e2 : (2 : Nat) ^ T = 2 ^ (T - j) * 2 ^ j := by rw [← Nat.pow_add, e0]
    have e3 : ((j : Int) - T).toNat = 0 := by clear hV e e2 hp; omega
    have e4 : (-((j : Int) - T)).toNat = T - j := by clear hV e e2 hp; omega
    rw [e3, e4, Nat.pow_zero, Nat.mul_one, e, e2, Nat.mul_div_mul_right _ _ hp]
theorem to_int {q M j V : Nat} (e : single.read q = .number false M ((j : Int) - (149 : Nat))) (hV : M * 2 ^ j = V) (hs : V / 2 ^ 149 < 9223372036854775808) : floatToIntVal .f32 q .i64 = some ((V / 2 ^ 149 : Nat) : Int) := by
  unfold floatToIntVal
  have h1 : (FloatKind.f32.decode q).toInt .zero = some ((V / 2 ^ 149 : Nat) : Int) := by
    show (single.read q).toInt .zero = _
    rw [e]
    show some (signed false (Toward.zero.cut false (M <<< ((j : Int) - (149 : Nat)).toNat) (-((j : Int) - (149 : Nat))).toNat) 0) = _
    rw [cut_zero_val false hV]
    unfold signed
    rw [if_neg (by decide), Nat.shiftLeft_zero]
  rw [h1]
  generalize V / 2 ^ 149 = n at *
  have h2 : IntKind.i64.min = -9223372036854775808 := by decide
  have h3 : IntKind.i64.max = 9223372036854775807 := by decide
  show (if IntKind.i64.min ≤ (n : Int) ∧ (n : Int) ≤ IntKind.i64.max then some (n : Int) else none) = _
  rw [h2, h3, if_pos ⟨by omega, by omega⟩]

theorem signed_nat (m k : Nat) : signed false m k = ((m * 2 ^ k : Nat) : Int) := by
  unfold signed
  rw [if_neg (by decide), Nat.shiftLeft_eq]
theorem signed_neg (m k : Nat) : signed true m k = -((m * 2 ^ k : Nat) : Int) := by
  unfold signed
  rw [if_pos rfl, Nat.shiftLeft_eq]
theorem int_single {n : Nat} (h0 : n ≠ 0) (h : n < 16777216) : ∃ M j : Nat, single.read (floatOfInt .f32 (n : Int)) = .number false M ((j : Int) - 149) ∧ M * 2 ^ j = n * 2 ^ 149 := by
  have hl : n.log2 < 24 := (Nat.log2_lt h0).2 h
  obtain ⟨M, j, h1, h2⟩ := single_exact false (mag := n) (m := n) (P := 0) (i := 0) h0 (by omega) (by omega) (by omega) (by omega) rfl
  exact ⟨M, j, h1, h2⟩
theorem int_double {n T : Nat} (hT : T = 1074) (h0 : n ≠ 0) (h : n ≤ 16777216) : ∃ M j : Nat, double.read (floatOfInt .f64 (n : Int)) = .number false M ((j : Int) - 1074) ∧ M * 2 ^ j = n * 2 ^ T := by
  have hl : n.log2 < 25 := (Nat.log2_lt h0).2 (by show n < 33554432; omega)
  obtain ⟨M, j, h1, h2⟩ := double_exact false (mag := n) (m := n) (P := 0) (i := 0) h0 (by omega) (by omega) (by omega) (by omega) rfl
  refine ⟨M, j, h1, ?_⟩
  have e : ((0 : Int) + 1074).toNat = T := by rw [hT]; rfl
  rw [h2, e]

/-- at least, of doubles -/
def geD (a b : Nat) : Bool := FloatKind.f64.format.order a b == some .gt || FloatKind.f64.format.order a b == some .eq
theorem cmp_mul {a b : Nat} {c : Nat} (hc : 0 < c) : compare ((a * c : Nat) : Int) ((b * c : Nat) : Int) = compare (a : Int) (b : Int) := by
  rw [Int.natCast_mul, Int.natCast_mul]
  exact cmp_scale (by omega)
theorem gt_floor {V n : Nat} {D : Nat} (hD : 0 < D) : (compare ((V / D : Nat) : Int) ((n : Nat) : Int) == .gt) = (compare ((V : Nat) : Int) (((n + 1) * D : Nat) : Int) == .gt || compare ((V : Nat) : Int) (((n + 1) * D : Nat) : Int) == .eq) := by
  have h := Nat.le_div_iff_mul_le (x := n + 1) (y := V) hD
  generalize (n + 1) * D = B at *
  rcases Nat.lt_or_ge V B with h1 | h1
  · have h2 : V / D ≤ n := by
      rcases Nat.lt_or_ge n (V / D) with h3 | h3
      · have := h.1 h3
        omega
      · exact h3
    rw [Int.compare_eq_lt.2 (show ((V : Nat) : Int) < (B : Int) by omega)]
    rcases Nat.eq_or_lt_of_le h2 with h3 | h3
    · rw [h3, Int.compare_eq_eq.2 rfl]; rfl
    · rw [Int.compare_eq_lt.2 (by omega)]; rfl
  · have h2 := h.2 h1
    rw [Int.compare_eq_gt.2 (by omega)]
    rcases Nat.eq_or_lt_of_le h1 with h3 | h3
    · rw [h3, Int.compare_eq_eq.2 rfl]; rfl
    · rw [Int.compare_eq_gt.2 (by omega)]; rfl

/-- what a level of a height asks of a single and of its whole part -/
structure Whole (q most : Nat) : Prop where
  conv : ∃ d, floatToFloatBits .f32 q .f64 = some d ∧ (double.read d).isNaN = false ∧ floatToFloatBits .f64 (double.write ((double.read d).integral .down)) .f32 = some (floorB q) ∧
    (lt q 0 = false → gt (floorB q) (floatOfInt .f32 (most : Int)) = geD d (floatOfInt .f64 ((most + 1 : Nat) : Int)))
  neg : lt (floorB q) 0 = lt q 0
  int : lt q 0 = false → gt (floorB q) (floatOfInt .f32 (most : Int)) = false → ∃ n : Nat, n ≤ most ∧ floatToIntVal .f32 (floorB q) .i64 = some (n : Int) ∧ floatToIntVal .f32 q .i64 = some (n : Int)

theorem lt_def {a b : Nat} {o : Ordering} (h : ord a b = some o) : lt a b = (o == .lt) := by
  unfold lt
  rw [ord_def, h]
  cases o <;> rfl
theorem gt_def {a b : Nat} {o : Ordering} (h : ord a b = some o) : gt a b = (o == .gt) := by
  unfold gt
  rw [ord_def, h]
  cases o <;> rfl
theorem geD_def {a b : Nat} {o : Ordering} (h : double.order a b = some o) : geD a b = (o == .gt || o == .eq) := by
  have h2 : FloatKind.f64.format.order a b = some o := h
  unfold geD
  rw [h2]
  cases o <;> rfl
theorem nonneg_lt {q m k : Nat} (e : single.read q = .number false m ((k : Int) - 149)) : lt q 0 = false := by
  rw [lt_def (ord_val e read_zero), signed_nat, signed_zero]
  rcases Nat.eq_zero_or_pos (m * 2 ^ k) with h | h
  · rw [h]; rfl
  · rw [Int.compare_eq_gt.2 (by omega)]; rfl
theorem zero_lt {q : Nat} {s : Bool} (e : single.read q = .number s 0 (((0 : Nat) : Int) - 149)) : lt q 0 = false := by
  rw [lt_def (ord_val e read_zero), signed_zero]
  cases s <;> decide
theorem neg_lt {q m k : Nat} (hm : m ≠ 0) (e : single.read q = .number true m ((k : Int) - 149)) : lt q 0 = true := by
  rw [lt_def (ord_val e read_zero), signed_neg, signed_zero]
  have h := Nat.mul_pos (Nat.pos_of_ne_zero hm) (Nat.two_pow_pos k)
  rw [Int.compare_eq_lt.2 (by omega)]; rfl

theorem whole_num {q most : Nat} {s : Bool} {m k : Nat} (h1 : 1 ≤ most) (h2 : most < 16777216) (e : single.read q = .number s m ((k : Int) - 149)) (hm : m ≠ 0) (hl : m.log2 ≤ 23) (hk : k ≤ 253) : Whole q most := by
  obtain ⟨d, Md, jd, C, M, j, f1, f2, f3, f4, f5, f6, f7, f8⟩ := floor_num e hm hl hk
  cases s with
  | true =>
    have n1 : lt q 0 = true := neg_lt hm e
    have hM : M ≠ 0 := by
      rintro rfl
      rw [Nat.zero_mul] at f6
      exact Nat.mul_ne_zero (f8 rfl) (Nat.pos_iff_ne_zero.1 (Nat.two_pow_pos _)) f6.symm
    refine ⟨⟨d, f1, by rw [f2]; rfl, f4, fun h => by rw [n1] at h; cases h⟩, by rw [n1]; exact neg_lt hM f5, fun h => by rw [n1] at h; cases h⟩
  | false =>
    have hC := f7 rfl
    obtain ⟨M2, j2, g1, g2⟩ := int_single (n := most) (by omega) h2
    have hg : gt (floorB q) (floatOfInt .f32 (most : Int)) = (compare (C : Int) (most : Int) == .gt) := by
      rw [gt_def (ord_val f5 g1), signed_nat, signed_nat, f6, g2, cmp_mul (Nat.two_pow_pos 149)]
    refine ⟨⟨d, f1, by rw [f2]; rfl, f4, fun _ => ?_⟩, by rw [nonneg_lt e, nonneg_lt f5], fun _ h => ?_⟩
    · obtain ⟨T, hT⟩ : ∃ T : Nat, T = 1074 := ⟨_, rfl⟩
      obtain ⟨a, ha⟩ : ∃ a : Nat, a = 925 := ⟨_, rfl⟩
      obtain ⟨M3, j3, k1, k2⟩ := int_double (n := most + 1) hT (by omega) (by omega)
      rw [hg, geD_def (ordD_val f2 k1), signed_nat, signed_nat, f3, k2, ← ha]
      have e1 : m * 2 ^ (k + a) = m * 2 ^ k * 2 ^ a := by rw [Nat.pow_add, Nat.mul_assoc]
      have e2 : (most + 1) * 2 ^ T = (most + 1) * 2 ^ 149 * 2 ^ a := by
        have e0 : T = 149 + a := by rw [hT, ha]
        rw [e0, Nat.pow_add, Nat.mul_assoc]
      rw [e1, e2, cmp_mul (Nat.two_pow_pos a), hC]
      exact gt_floor (Nat.two_pow_pos 149)
    · rw [hg] at h
      have hle : C ≤ most := by
        rcases Nat.lt_or_ge most C with h3 | h3
        · rw [Int.compare_eq_gt.2 (by omega)] at h
          cases h
        · exact h3
      have i1 := to_int f5 f6 (by rw [Nat.mul_div_cancel _ (Nat.two_pow_pos _)]; omega)
      rw [Nat.mul_div_cancel _ (Nat.two_pow_pos _)] at i1
      have i2 := to_int e rfl (by rw [← hC]; omega)
      rw [← hC] at i2
      exact ⟨C, hle, i1, i2⟩
theorem cut_nil (s : Bool) (T : Nat) : Toward.down.cut s (0 <<< (((0 : Nat) : Int) - T).toNat) (-(((0 : Nat) : Int) - T)).toNat = 0 := by
  rw [cut_val s (M := 0) (j := 0) (V := 0) (by rw [Nat.zero_mul]), Nat.zero_div, Nat.zero_mod]
  cases s <;> rfl
theorem whole_nil {q most : Nat} {s : Bool} (h1 : 1 ≤ most) (h2 : most < 16777216) (e : single.read q = .number s 0 (((0 : Nat) : Int) - 149)) : Whole q most := by
  have c1 : floatToFloatBits .f32 q .f64 = some (double.nearest s 0 (((0 : Nat) : Int) - 149)) := by
    unfold floatToFloatBits
    rw [if_neg (by decide)]
    show (match single.read q with | .nan _ _ => none | .infinity s => _ | .number s m e => _) = _
    rw [e]
    show (if (double.read (double.nearest s 0 (((0 : Nat) : Int) - 149))).isInfinity = true then none else some (double.nearest s 0 (((0 : Nat) : Int) - 149))) = _
    rw [double_zero, if_neg (fun h => by cases h)]
  obtain ⟨t, z1, z2⟩ := whole_zero s
  have c2 : double.write ((double.read (double.nearest s 0 (((0 : Nat) : Int) - 149))).integral .down) = double.nearest s 0 0 := by
    rw [double_zero]
    show double.nearest s (Toward.down.cut s (0 <<< ((((0 : Nat) : Int) - (1074 : Nat))).toNat) (-((((0 : Nat) : Int) - (1074 : Nat)))).toNat) 0 = _
    rw [cut_nil]
  rw [← c2] at z1
  have et : floorB q = t := floorB_eq c1 z1
  rw [← et] at z1 z2
  obtain ⟨M2, j2, g1, g2⟩ := int_single (n := most) (by omega) h2
  have hs0 : ∀ k, signed s 0 k = 0 := fun k => by cases s <;> simp [signed]
  have hg : gt (floorB q) (floatOfInt .f32 (most : Int)) = false := by
    rw [gt_def (ord_val z2 g1), hs0, signed_nat, g2]
    have h := Nat.mul_pos (show 0 < most by omega) (Nat.two_pow_pos 149)
    rw [Int.compare_eq_lt.2 (by omega)]; rfl
  refine ⟨⟨_, c1, by rw [double_zero]; rfl, z1, fun _ => ?_⟩, by rw [zero_lt e, zero_lt z2], fun _ _ => ⟨0, by omega, ?_⟩⟩
  · obtain ⟨T, hT⟩ : ∃ T : Nat, T = 1074 := ⟨_, rfl⟩
    obtain ⟨M3, j3, k1, k2⟩ := int_double (n := most + 1) hT (by omega) (by omega)
    rw [hg, geD_def (ordD_val (double_zero s _) k1), hs0, signed_nat, k2]
    have h := Nat.mul_pos (show 0 < most + 1 by omega) (Nat.two_pow_pos T)
    clear k2 hT
    generalize (most + 1) * 2 ^ T = B at *
    rw [Int.compare_eq_lt.2 (by omega)]; rfl
  · have h3 : ∀ x, single.read x = .number s 0 (((0 : Nat) : Int) - 149) → floatToIntVal .f32 x .i64 = some ((0 : Nat) : Int) := by
      intro x hx
      unfold floatToIntVal
      have h4 : (FloatKind.f32.decode x).toInt .zero = some 0 := by
        show (single.read x).toInt .zero = _
        rw [hx]
        cases s <;> decide
      rw [h4]
      rfl
    exact ⟨h3 _ z2, h3 _ e⟩
theorem whole_inf {q most : Nat} {s : Bool} (h1 : 1 ≤ most) (h2 : most < 16777216) (e : single.read q = .infinity s) : Whole q most := by
  have c1 : floatToFloatBits .f32 q .f64 = some (double.write (.infinity s)) := by
    unfold floatToFloatBits
    rw [if_neg (by decide)]
    show (match single.read q with | .nan _ _ => none | .infinity s => some (double.write (.infinity s)) | .number s m e => _) = _
    rw [e]
  have r1 : double.read (double.write (.infinity s)) = .infinity s := by cases s <;> decide +kernel
  have c2 : floatToFloatBits .f64 (double.write ((double.read (double.write (.infinity s))).integral .down)) .f32 = some (single.write (.infinity s)) := by
    rw [r1]
    show floatToFloatBits .f64 (double.write (.infinity s)) .f32 = _
    unfold floatToFloatBits
    rw [if_neg (by decide)]
    show (match double.read (double.write (.infinity s)) with | .nan _ _ => none | .infinity s => some (single.write (.infinity s)) | .number s m e => _) = _
    rw [r1]
  have et : floorB q = single.write (.infinity s) := floorB_eq c1 c2
  have r2 : single.read (floorB q) = .infinity s := by rw [et]; cases s <;> decide +kernel
  rw [← et] at c2
  obtain ⟨M2, j2, g1, g2⟩ := int_single (n := most) (by omega) h2
  have hlt : ∀ x, single.read x = .infinity s → lt x 0 = s := by
    intro x hx
    have h : ord x 0 = some (if s then .lt else .gt) := by
      show single.order x 0 = _
      unfold Format.order
      rw [hx, read_zero]
      rfl
    rw [lt_def h]
    cases s <;> rfl
  refine ⟨⟨_, c1, by rw [r1]; rfl, c2, fun h => ?_⟩, by rw [hlt _ e, hlt _ r2], fun h h3 => ?_⟩
  · rw [hlt _ e] at h
    subst h
    obtain ⟨M3, j3, k1, _⟩ := int_double (n := most + 1) rfl (by omega) (by omega)
    have o1 : ord (floorB q) (floatOfInt .f32 (most : Int)) = some .gt := by
      show single.order _ _ = _
      unfold Format.order
      rw [r2, g1]
      rfl
    have o2 : double.order (double.write (.infinity false)) (floatOfInt .f64 ((most + 1 : Nat) : Int)) = some .gt := by
      unfold Format.order
      rw [r1, k1]
      rfl
    rw [gt_def o1, geD_def o2]
    rfl
  · rw [hlt _ e] at h
    subst h
    have o1 : ord (floorB q) (floatOfInt .f32 (most : Int)) = some .gt := by
      show single.order _ _ = _
      unfold Format.order
      rw [r2, g1]
      rfl
    rw [gt_def o1] at h3
    cases h3
theorem whole_any {q most : Nat} (h1 : 1 ≤ most) (h2 : most < 16777216) (h : nanB q = false) : Whole q most := by
  rcases cls h with ⟨s, e⟩ | ⟨s, e⟩ | ⟨s, m, k, e, hm, hl, hk⟩
  · exact whole_inf h1 h2 e
  · exact whole_nil h1 h2 e
  · exact whole_num h1 h2 e hm hl hk
end Go.Proofs.Ytpgdinpckolfpaa

namespace Go.Proofs.Ytpgdinpckolfpaa
open Ieee

/-! ### roots that are at least 64 -/
theorem rootFrom_ge (n : Nat) : ∀ (todo root : Nat), n < (root + 2 ^ todo) * (root + 2 ^ todo) → n < (Datum.rootFrom n todo root + 1) * (Datum.rootFrom n todo root + 1)
  | 0, root, h => by simpa [Datum.rootFrom] using h
  | todo + 1, root, h => by
    unfold Datum.rootFrom
    have h4 : root + 1 <<< todo = root + 2 ^ todo := by rw [Nat.shiftLeft_eq, Nat.one_mul]
    have h3 : root + 2 ^ (todo + 1) = root + 2 ^ todo + 2 ^ todo := by rw [Nat.pow_succ]; omega
    rw [h3] at h
    simp only [h4]
    split
    · exact rootFrom_ge n todo _ h
    · rename_i h5
      exact rootFrom_ge n todo root (by omega)
theorem rootFrom_pow {n c : Nat} (h : 2 ^ (2 * c) ≤ n) : 2 ^ c ≤ Datum.rootFrom n (n.log2 / 2 + 1) 0 := by
  have hl : n < 2 ^ (n.log2 + 1) := Nat.lt_log2_self
  have h1 : n < (0 + 2 ^ (n.log2 / 2 + 1)) * (0 + 2 ^ (n.log2 / 2 + 1)) := by
    rw [Nat.zero_add, ← Nat.pow_add]
    exact Nat.lt_of_lt_of_le hl (Nat.pow_le_pow_right (by omega) (by omega))
  have h2 := rootFrom_ge n _ _ h1
  generalize Datum.rootFrom n (n.log2 / 2 + 1) 0 = R at *
  rcases Nat.lt_or_ge R (2 ^ c) with h3 | h3
  · have h4 : (R + 1) * (R + 1) ≤ 2 ^ c * 2 ^ c := Nat.mul_le_mul h3 h3
    rw [← Nat.pow_add, ← Nat.two_mul] at h4
    omega
  · exact h3
/-- a value of at least 2^12 has a root of at least 2^6 -/
theorem root_ge {m : Nat} {i : Int} (hm : m ≠ 0) (h : 12 ≤ (m.log2 : Int) + i) :
    ∃ (M : Nat) (p : Int), (Datum.number false m i).root 54 = some (.number false M p) ∧ M ≠ 0 ∧ 6 ≤ (M.log2 : Int) + p := by
  obtain ⟨more, hmore⟩ : ∃ more, 2 * 54 - m.log2 + ((i - (2 * 54 - m.log2 : Nat)) % 2).toNat = more := ⟨_, rfl⟩
  obtain ⟨e, he⟩ : ∃ e : Int, (i - more) / 2 = e := ⟨_, rfl⟩
  have he2 : i - more = 2 * e := by omega
  obtain ⟨M, hM⟩ : ∃ M, 2 * Datum.rootFrom (m <<< more) ((m <<< more).log2 / 2 + 1) 0 + (Datum.rootFrom (m <<< more) ((m <<< more).log2 / 2 + 1) 0 * Datum.rootFrom (m <<< more) ((m <<< more).log2 / 2 + 1) 0 != m <<< more).toNat = M := ⟨_, rfl⟩
  have hn0 : (m <<< more) ≠ 0 := shift_ne hm
  have hlog : (m <<< more).log2 = m.log2 + more := log_shift hm
  have hR := rootFrom_pow (n := m <<< more) (c := (m <<< more).log2 / 2) (Nat.le_trans (Nat.pow_le_pow_right (by omega) (by omega)) (Nat.log2_self_le hn0))
  have hM2 : 2 ^ ((m <<< more).log2 / 2 + 1) ≤ M := by
    rw [Nat.pow_succ]
    omega
  have hM0 : M ≠ 0 := by
    have := Nat.two_pow_pos ((m <<< more).log2 / 2 + 1)
    omega
  have hM3 := (Nat.le_log2 hM0).2 hM2
  refine ⟨M, e - 1, ?_, hM0, ?_⟩
  · unfold Datum.root
    simp only [if_neg hm, Bool.false_eq_true, if_false]
    rw [hmore, hM, he]
  · rw [hlog] at hM3
    clear hM2 hR hM hn0 hlog
    omega
theorem least_sum {c d B t k I : Nat} (h : (c + d) * B ≤ t * B) (hk : B ≤ k) (hi : (c + (d + 1)) * B ≤ I) : (c + (d + 1)) * B ≤ min (t * B + k) I := by
  have e : (c + (d + 1)) * B = (c + d) * B + B := by rw [← Nat.add_assoc, Nat.succ_mul]
  rw [e] at hi ⊢
  exact Nat.le_min.2 ⟨Nat.add_le_add h hk, hi⟩
set_option maxRecDepth 20000 in
theorem near_geD {M : Nat} {p : Int} {c : Nat} (hM : M ≠ 0) (h : (c : Int) ≤ (M.log2 : Int) + p) (hc : c ≤ 1000) : (c + 1023) * 4503599627370496 ≤ double.nearest false M p % 9223372036854775808 := by
  have hI : (c + (1022 + 1)) * 4503599627370496 ≤ 9218868437227405312 := by omega
  unfold Format.nearest
  rw [if_neg hM]
  simp only [double_binade, double_inf, double_least, double_frac]
  have hk : ∀ last : Int, last = max (p + M.log2 - 52) (-1074) → 2 ^ 52 ≤ Toward.even.cut false (M <<< (p - last).toNat) (last - p).toNat := by
    intro last hlast
    refine cut_ge (shift_ne hM) ?_
    rw [log_shift hM]
    omega
  have := hk _ rfl
  rw [word_rungD (by omega)]
  have e : c + 1022 ≤ ((max (p + M.log2 - (52 : Nat)) (-1074) - -1074).toNat) := by omega
  have e2 := Nat.mul_le_mul_right 4503599627370496 e
  simp only [show ((52 : Nat) : Int) = 52 from rfl] at *
  exact least_sum e2 this hI
set_option maxRecDepth 20000 in
theorem near_geS {M : Nat} {p : Int} {c : Nat} (hM : M ≠ 0) (h : (c : Int) ≤ (M.log2 : Int) + p) (hc : c ≤ 100) : (c + 127) * 8388608 ≤ single.nearest false M p % 2147483648 := by
  have hI : (c + (126 + 1)) * 8388608 ≤ 2139095040 := by omega
  unfold Format.nearest
  rw [if_neg hM]
  simp only [single_binade, single_inf, single_least, single_frac]
  have hk : ∀ last : Int, last = max (p + M.log2 - 23) (-149) → 2 ^ 23 ≤ Toward.even.cut false (M <<< (p - last).toNat) (last - p).toNat := by
    intro last hlast
    refine cut_ge (shift_ne hM) ?_
    rw [log_shift hM]
    omega
  have := hk _ rfl
  rw [word_rung (by omega)]
  have e : c + 126 ≤ ((max (p + M.log2 - (23 : Nat)) (-149) - -149).toNat) := by omega
  have e2 := Nat.mul_le_mul_right 8388608 e
  simp only [show ((23 : Nat) : Int) = 23 from rfl] at *
  exact least_sum e2 this hI
set_option maxRecDepth 20000 in
theorem read_geD {b c : Nat} (h : (c + 1023) * 4503599627370496 ≤ b % 9223372036854775808) (hi : b % 9223372036854775808 < 9218868437227405312) (hs : b < 9223372036854775808) :
    ∃ (m : Nat) (p : Int), double.read b = .number false m p ∧ m ≠ 0 ∧ (c : Int) ≤ (m.log2 : Int) + p := by
  unfold Format.read
  simp only [double_sign, double_binade, double_inf, double_least]
  have e2 : (b / 9223372036854775808 % 2 == 1) = false := by rw [Nat.div_eq_of_lt hs]; rfl
  rw [if_neg (by omega), if_pos hi, e2]
  generalize b % 9223372036854775808 = r at *
  have hm : 4503599627370496 + r % 4503599627370496 ≠ 0 := by omega
  have hl : (4503599627370496 + r % 4503599627370496).log2 = 52 := by
    rw [Nat.log2_eq_iff hm]
    constructor
    · show 4503599627370496 ≤ _; omega
    · show _ < 9007199254740992; omega
  refine ⟨_, _, rfl, hm, ?_⟩
  rw [hl]
  omega
theorem ge_valR {x c : Nat} (h : (c + 127) * 8388608 ≤ x % 2147483648) (hi : x % 2147483648 < 2139095040) (hs : x < 2147483648) :
    ∃ (m k : Nat), single.read x = .number false m ((k : Int) - 149) ∧ 2 ^ (c + 149) ≤ m * 2 ^ k := by
  obtain ⟨s, m, k, e, h1, _⟩ := read_geJ (j := c + 127) (by omega) ⟨h, hi⟩
  obtain rfl := sign_false hs e
  exact ⟨m, k, e, by rw [show c + 149 = 22 + (c + 127) by omega]; exact h1⟩

/-! ### whole numbers -/
theorem int_bd' {n : Nat} (h : n < 2 ^ 60) : Bd 60 (floatOfInt .f32 (n : Int)) := int_bd (by simpa using h) (by omega)
theorem int_pos (n : Nat) : floatOfInt .f32 (n : Int) < 2147483648 := by
  show single.nearest (decide ((n : Int) < 0)) (n : Int).natAbs 0 < _
  rw [decide_eq_false (by omega)]
  exact near_false _ _
theorem conv_up_eq {K b : Nat} {s : Bool} {m k : Nat} (h : Bd K b) (hK : K ≤ 127) (e : single.read b = .number s m ((k : Int) - 149)) : floatToFloatBits .f32 b .f64 = some (double.nearest s m ((k : Int) - (149 : Nat))) := by
  obtain ⟨s', m', k', e', hm⟩ := read_bd h hK
  rw [e] at e'
  injection e' with a1 a2 a3
  subst a1
  subst a2
  have a4 : k' = k := by omega
  subst a4
  have hb : BdD (K + 1) (double.nearest s m ((k' : Int) - (149 : Nat))) := write_bdD (Nat.lt_of_le_of_lt hm (Nat.pow_lt_pow_right (by omega) (by omega))) (by omega)
  unfold floatToFloatBits
  rw [if_neg (by decide)]
  show (match single.read b with | .nan _ _ => none | .infinity s => _ | .number s m e => _) = _
  rw [e]
  show (if (double.read (double.nearest s m ((k' : Int) - (149 : Nat)))).isInfinity = true then none else some (double.nearest s m ((k' : Int) - (149 : Nat)))) = _
  rw [bdD_inf hb (by omega), if_neg (by decide)]
theorem conv_down_eq {r q : Nat} {s : Bool} {m : Nat} {p : Int} (e : double.read r = .number s m p) (h : floatToFloatBits .f64 r .f32 = some q) : q = single.nearest s m p := by
  unfold floatToFloatBits at h
  rw [if_neg (by decide)] at h
  have f4 : (match double.read r with | .nan _ _ => none | .infinity s => some (single.write (.infinity s)) | .number s m e => if (single.read (single.write (.number s m e))).isInfinity = true then none else some (single.write (.number s m e))) = some q := h
  rw [e] at f4
  simp only at f4
  split at f4
  · cases f4
  · injection f4 with f4
    exact f4.symm
set_option maxRecDepth 20000 in
theorem root_big {n : Nat} (h : 4096 ≤ n) (hn : n < 2 ^ 60) : ∃ m k : Nat, single.read (rootB (floatOfInt .f32 (n : Int))) = .number false m ((k : Int) - 149) ∧ 2 ^ (6 + 149) ≤ m * 2 ^ k := by
  have hb := int_bd' hn
  have hs := int_pos n
  have h1 : (12 + 127) * 8388608 ≤ floatOfInt .f32 (n : Int) % 2147483648 := by
    have h2 := near_geS (M := n) (p := 0) (c := 12) (by omega) (by have := (Nat.le_log2 (show n ≠ 0 by omega) (k := 12)).2 h; omega) (by omega)
    show _ ≤ single.nearest (decide ((n : Int) < 0)) (n : Int).natAbs 0 % _
    rw [decide_eq_false (by omega)]
    exact h2
  obtain ⟨d, r, c1, c2, c3, c4, c5, c6⟩ := root_okD hb hs (by omega)
  generalize floatOfInt .f32 (n : Int) = x at *
  obtain ⟨m0, k0, e0, v0⟩ := ge_valR h1 (by unfold Bd at hb; omega) hs
  have hm0 : m0 ≠ 0 := by
    rintro rfl
    rw [Nat.zero_mul] at v0
    have := Nat.two_pow_pos (12 + 149)
    omega
  have hl0 := log_ge v0
  have d1 := conv_up_eq hb (by omega) e0
  obtain ⟨d', d2, d3, d4⟩ := conv_up hb (by omega)
  have hdd : d' = d := by rw [c1] at d2; injection d2 with d2; exact d2.symm
  subst hdd
  have hdv : d' = double.nearest false m0 ((k0 : Int) - (149 : Nat)) := by rw [c1] at d1; injection d1
  have g1 := near_geD (M := m0) (p := (k0 : Int) - (149 : Nat)) (c := 12) hm0 (by omega) (by omega)
  rw [← hdv] at g1
  obtain ⟨m1, p1, e1, hm1, hl1⟩ := read_geD g1 (by unfold BdD at d3; omega) (d4 hs)
  obtain ⟨M, p2, e2, hM, hl2⟩ := root_ge hm1 hl1
  have hr : r = double.nearest false M p2 := by
    have h9 : double.sqrt d' = some (double.nearest false M p2) := by
      unfold Format.sqrt
      rw [e1, double_frac]
      show (Datum.root 54 _).map double.write = _
      rw [e2]
      rfl
    rw [c2] at h9
    injection h9
  have g2 := near_geD (M := M) (p := p2) (c := 6) hM hl2 (by omega)
  rw [← hr] at g2
  have hrs : r < 9223372036854775808 := by rw [hr]; exact near_falseD _ _
  have hri : r % 9223372036854775808 < 9218868437227405312 := by
    unfold BdD at c6
    omega
  obtain ⟨m3, p3, e3, hm3, hl3⟩ := read_geD g2 hri hrs
  have hq := conv_down_eq e3 c3
  have g3 := near_geS (M := m3) (p := p3) (c := 6) hm3 hl3 (by omega)
  rw [← hq] at g3
  exact ge_valR g3 (by unfold Bd at c4; omega) c5

theorem lt_small {x r : Nat} {m k : Nat} (e : single.read x = .number false m ((k : Int) - 149)) (h : 2 ^ (6 + 149) ≤ m * 2 ^ k) (hr : r ≤ 64) : lt x (floatOfInt .f32 (r : Int)) = false := by
  by_cases h0 : r = 0
  · subst h0
    exact nonneg_lt e
  · obtain ⟨M, j, g1, g2⟩ := int_single h0 (by omega)
    rw [lt_def (ord_val e g1), signed_nat, signed_nat, g2]
    have h2 : r * 2 ^ 149 ≤ 2 ^ (6 + 149) := by
      rw [Nat.pow_add]
      exact Nat.mul_le_mul_right _ hr
    generalize m * 2 ^ k = V at *
    generalize r * 2 ^ 149 = U at *
    rcases Nat.eq_or_lt_of_le (show U ≤ V by omega) with h3 | h3
    · rw [h3, Int.compare_eq_eq.2 rfl]; rfl
    · rw [Int.compare_eq_gt.2 (by omega)]; rfl
theorem lt_int {x r : Nat} {m k : Nat} (e : single.read x = .number false m ((k : Int) - 149)) (hr : r < 16777216) : lt x (floatOfInt .f32 (r : Int)) = decide (m * 2 ^ k < r * 2 ^ 149) := by
  by_cases h0 : r = 0
  · subst h0
    rw [Nat.zero_mul, decide_eq_false (by omega)]
    exact nonneg_lt e
  · obtain ⟨M, j, g1, g2⟩ := int_single h0 hr
    rw [lt_def (ord_val e g1), signed_nat, signed_nat, g2]
    generalize m * 2 ^ k = V at *
    generalize r * 2 ^ 149 = U at *
    rcases Nat.lt_trichotomy V U with h3 | h3 | h3
    · rw [Int.compare_eq_lt.2 (by omega), decide_eq_true h3]; rfl
    · rw [h3, Int.compare_eq_eq.2 rfl, decide_eq_false (by omega)]; rfl
    · rw [Int.compare_eq_gt.2 (by omega), decide_eq_false (by omega)]; rfl
def rootOk (s k : Nat) : Bool := lt (rootB (floatOfInt .f32 ((s * s + k : Nat) : Int))) (floatOfInt .f32 ((s + 1 : Nat) : Int)) && !lt (rootB (floatOfInt .f32 ((s * s + k : Nat) : Int))) (floatOfInt .f32 (s : Int))
set_option maxHeartbeats 0 in
theorem root_tab0 : ∀ s, s < 4 → ∀ k, k < 2 * (0 + s) + 1 → rootOk (0 + s) k = true := by decide +kernel
set_option maxHeartbeats 0 in
theorem root_tab1 : ∀ s, s < 4 → ∀ k, k < 2 * (4 + s) + 1 → rootOk (4 + s) k = true := by decide +kernel
set_option maxHeartbeats 0 in
theorem root_tab2 : ∀ s, s < 4 → ∀ k, k < 2 * (8 + s) + 1 → rootOk (8 + s) k = true := by decide +kernel
set_option maxHeartbeats 0 in
theorem root_tab3 : ∀ s, s < 4 → ∀ k, k < 2 * (12 + s) + 1 → rootOk (12 + s) k = true := by decide +kernel
set_option maxHeartbeats 0 in
theorem root_tab4 : ∀ s, s < 4 → ∀ k, k < 2 * (16 + s) + 1 → rootOk (16 + s) k = true := by decide +kernel
set_option maxHeartbeats 0 in
theorem root_tab5 : ∀ s, s < 4 → ∀ k, k < 2 * (20 + s) + 1 → rootOk (20 + s) k = true := by decide +kernel
set_option maxHeartbeats 0 in
theorem root_tab6 : ∀ s, s < 4 → ∀ k, k < 2 * (24 + s) + 1 → rootOk (24 + s) k = true := by decide +kernel
set_option maxHeartbeats 0 in
theorem root_tab7 : ∀ s, s < 4 → ∀ k, k < 2 * (28 + s) + 1 → rootOk (28 + s) k = true := by decide +kernel
set_option maxHeartbeats 0 in
theorem root_tab8 : ∀ s, s < 4 → ∀ k, k < 2 * (32 + s) + 1 → rootOk (32 + s) k = true := by decide +kernel
set_option maxHeartbeats 0 in
theorem root_tab9 : ∀ s, s < 4 → ∀ k, k < 2 * (36 + s) + 1 → rootOk (36 + s) k = true := by decide +kernel
set_option maxHeartbeats 0 in
theorem root_tab10 : ∀ s, s < 4 → ∀ k, k < 2 * (40 + s) + 1 → rootOk (40 + s) k = true := by decide +kernel
set_option maxHeartbeats 0 in
theorem root_tab11 : ∀ s, s < 4 → ∀ k, k < 2 * (44 + s) + 1 → rootOk (44 + s) k = true := by decide +kernel
set_option maxHeartbeats 0 in
theorem root_tab12 : ∀ s, s < 4 → ∀ k, k < 2 * (48 + s) + 1 → rootOk (48 + s) k = true := by decide +kernel
set_option maxHeartbeats 0 in
theorem root_tab13 : ∀ s, s < 4 → ∀ k, k < 2 * (52 + s) + 1 → rootOk (52 + s) k = true := by decide +kernel
set_option maxHeartbeats 0 in
theorem root_tab14 : ∀ s, s < 4 → ∀ k, k < 2 * (56 + s) + 1 → rootOk (56 + s) k = true := by decide +kernel
set_option maxHeartbeats 0 in
theorem root_tab15 : ∀ s, s < 4 → ∀ k, k < 2 * (60 + s) + 1 → rootOk (60 + s) k = true := by decide +kernel
theorem root_tab (s : Nat) (h : s < 64) (k : Nat) (hk : k < 2 * s + 1) : rootOk s k = true := by
  by_cases h0 : s < 4
  · have := root_tab0 (s - 0) (by omega) k (by omega)
    rwa [show 0 + (s - 0) = s by omega] at this
  by_cases h1 : s < 8
  · have := root_tab1 (s - 4) (by omega) k (by omega)
    rwa [show 4 + (s - 4) = s by omega] at this
  by_cases h2 : s < 12
  · have := root_tab2 (s - 8) (by omega) k (by omega)
    rwa [show 8 + (s - 8) = s by omega] at this
  by_cases h3 : s < 16
  · have := root_tab3 (s - 12) (by omega) k (by omega)
    rwa [show 12 + (s - 12) = s by omega] at this
  by_cases h4 : s < 20
  · have := root_tab4 (s - 16) (by omega) k (by omega)
    rwa [show 16 + (s - 16) = s by omega] at this
  by_cases h5 : s < 24
  · have := root_tab5 (s - 20) (by omega) k (by omega)
    rwa [show 20 + (s - 20) = s by omega] at this
  by_cases h6 : s < 28
  · have := root_tab6 (s - 24) (by omega) k (by omega)
    rwa [show 24 + (s - 24) = s by omega] at this
  by_cases h7 : s < 32
  · have := root_tab7 (s - 28) (by omega) k (by omega)
    rwa [show 28 + (s - 28) = s by omega] at this
  by_cases h8 : s < 36
  · have := root_tab8 (s - 32) (by omega) k (by omega)
    rwa [show 32 + (s - 32) = s by omega] at this
  by_cases h9 : s < 40
  · have := root_tab9 (s - 36) (by omega) k (by omega)
    rwa [show 36 + (s - 36) = s by omega] at this
  by_cases h10 : s < 44
  · have := root_tab10 (s - 40) (by omega) k (by omega)
    rwa [show 40 + (s - 40) = s by omega] at this
  by_cases h11 : s < 48
  · have := root_tab11 (s - 44) (by omega) k (by omega)
    rwa [show 44 + (s - 44) = s by omega] at this
  by_cases h12 : s < 52
  · have := root_tab12 (s - 48) (by omega) k (by omega)
    rwa [show 48 + (s - 48) = s by omega] at this
  by_cases h13 : s < 56
  · have := root_tab13 (s - 52) (by omega) k (by omega)
    rwa [show 52 + (s - 52) = s by omega] at this
  by_cases h14 : s < 60
  · have := root_tab14 (s - 56) (by omega) k (by omega)
    rwa [show 56 + (s - 56) = s by omega] at this
  by_cases h15 : s < 64
  · have := root_tab15 (s - 60) (by omega) k (by omega)
    rwa [show 60 + (s - 60) = s by omega] at this
  omega
theorem root_small {n : Nat} (h : n < 4096) : ∃ s, s < 64 ∧ s * s ≤ n ∧ n < (s + 1) * (s + 1) ∧ lt (rootB (floatOfInt .f32 (n : Int))) (floatOfInt .f32 ((s + 1 : Nat) : Int)) = true ∧ lt (rootB (floatOfInt .f32 (n : Int))) (floatOfInt .f32 (s : Int)) = false := by
  have key : ∀ t, n < t * t → ∃ s, s < t ∧ s * s ≤ n ∧ n < (s + 1) * (s + 1) := by
    intro t
    induction t with
    | zero => intro h; omega
    | succ t ih =>
      intro h
      rcases Nat.lt_or_ge n (t * t) with h1 | h1
      · obtain ⟨s, a, b, c⟩ := ih h1
        exact ⟨s, by omega, b, c⟩
      · exact ⟨t, by omega, h1, h⟩
  obtain ⟨s, a, b, c⟩ := key 64 (by omega)
  have e : (s + 1) * (s + 1) = s * s + 2 * s + 1 := by rw [Nat.add_mul, Nat.mul_add]; omega
  have h1 := root_tab s a (n - s * s) (by omega)
  unfold rootOk at h1
  rw [show s * s + (n - s * s) = n by omega] at h1
  rw [Bool.and_eq_true] at h1
  exact ⟨s, a, b, c, h1.1, by simpa using h1.2⟩
theorem root_lt {n r : Nat} (hn : n < 2 ^ 60) (hr : r ≤ 64) : lt (rootB (floatOfInt .f32 (n : Int))) (floatOfInt .f32 (r : Int)) = decide (n < r * r) := by
  rcases Nat.lt_or_ge n 4096 with h | h
  · obtain ⟨s, a, b, c, h1, h2⟩ := root_small h
    obtain ⟨_, _, _, _, _, b1, b2⟩ := root_ok (int_bd' hn) (int_pos n) (by omega)
    obtain ⟨g, m, k, e⟩ := (show ∃ (g : Bool) (m k : Nat), single.read (rootB (floatOfInt .f32 (n : Int))) = .number g m ((k : Int) - 149) from by
      obtain ⟨g, m, k, e, _⟩ := read_bd b1 (by omega)
      exact ⟨g, m, k, e⟩)
    obtain rfl := sign_false b2 e
    rw [lt_int e (by omega)] at h1 h2
    rw [lt_int e (by omega)]
    have h3 := of_decide_eq_true h1
    have h4 := of_decide_eq_false h2
    generalize m * 2 ^ k = V at *
    have h5 := Nat.two_pow_pos 149
    generalize 2 ^ 149 = T at *
    rcases Nat.lt_or_ge s r with h6 | h6
    · have h7 : (s + 1) * T ≤ r * T := Nat.mul_le_mul_right _ h6
      have h8 : (s + 1) * (s + 1) ≤ r * r := Nat.mul_le_mul h6 h6
      rw [decide_eq_true (show V < r * T by omega), decide_eq_true (show n < r * r by omega)]
    · have h7 : r * T ≤ s * T := Nat.mul_le_mul_right _ h6
      have h8 : r * r ≤ s * s := Nat.mul_le_mul h6 h6
      rw [decide_eq_false (show ¬ V < r * T by omega), decide_eq_false (show ¬ n < r * r by omega)]
  · obtain ⟨m, k, e, hv⟩ := root_big h hn
    rw [lt_small e hv hr]
    have h2 : r * r ≤ 64 * 64 := Nat.mul_le_mul hr hr
    exact (decide_eq_false (by omega)).symm
end Go.Proofs.Ytpgdinpckolfpaa
