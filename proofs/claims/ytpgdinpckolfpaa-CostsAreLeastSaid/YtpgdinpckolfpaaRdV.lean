/- Contracts: Leap of the reference, road.place. -/
import Derived.Test.YtpgdinpckolfpaaRdU
namespace Go.Proofs.Ytpgdinpckolfpaa
open Go.RowKit
attribute [local go_sem ↓] Go.wp_at_zero Go.wp_at_succ
attribute [local go_sem] run_max4

/-- what Leap tells -/
def lpV (x y : Int) : Value := match leapO x y with
  | none => .tuple #[.int .i64 0, .int .i64 0]
  | some (d, n) => .tuple #[.int .i64 d, .int .i64 n]
theorem leap_max {x y : Int} {d n : Nat} (h : leapO x y = some (d, n)) : max4 x (-x) y (-y) = n := by
  obtain ⟨hd, hn, hx, hy⟩ := leapO_spec h
  have h8 : d = 0 ∨ d = 1 ∨ d = 2 ∨ d = 3 ∨ d = 4 ∨ d = 5 ∨ d = 6 ∨ d = 7 := by omega
  unfold max4
  rcases h8 with rfl | rfl | rfl | rfl | rfl | rfl | rfl | rfl <;> simp [stepX, stepY] at hx hy <;> omega
theorem leap_hit {x y : Int} {j : Nat} (hj : j < 8) (h0 : 0 < max4 x (-x) y (-y)) (h1 : stepX j * max4 x (-x) y (-y) = x) (h2 : stepY j * max4 x (-x) y (-y) = y) : leapO x y = some (j, (max4 x (-x) y (-y)).toNat) := by
  obtain ⟨n, hn⟩ : ∃ n : Nat, max4 x (-x) y (-y) = n := ⟨(max4 x (-x) y (-y)).toNat, by omega⟩
  rw [hn] at h0 h1 h2
  have := leapO_of (d := j) (n := n) hj (by omega)
  rw [Int.mul_comm] at h1 h2
  rw [h1, h2] at this
  rw [this, hn]
  rfl
theorem mul_sgn {s m : Int} (h : s = -1 ∨ s = 0 ∨ s = 1) (h1 : 0 ≤ m) (h2 : m ≤ 33554432) : -33554432 ≤ s * m ∧ s * m ≤ 33554432 := by
  rcases h with rfl | rfl | rfl <;> omega
theorem max4_in {x y : Int} (h1 : -33554432 ≤ x ∧ x ≤ 33554432) (h2 : -33554432 ≤ y ∧ y ≤ 33554432) : 0 ≤ max4 x (-x) y (-y) ∧ max4 x (-x) y (-y) ≤ 33554432 := by
  unfold max4
  omega
set_option maxRecDepth 100000 in
set_option maxHeartbeats 6400000 in
theorem Leap_any (ax ay bx by' : Int) (w : World) (h1 : -16777216 ≤ ax ∧ ax ≤ 16777216) (h2 : -16777216 ≤ ay ∧ ay ≤ 16777216) (h3 : -16777216 ≤ bx ∧ bx ≤ 16777216) (h4 : -16777216 ≤ by' ∧ by' ≤ 16777216) :
    Calls Try.prog 36 #[.agg #[.int .i64 ax, .int .i64 ay], .agg #[.int .i64 bx, .int .i64 by']] w fun e w' => e = .returned (lpV (bx - ax) (by' - ay)) ∧ Ext w w' := by
  have HS := fun (j : Nat) (w : World) (h : j < 8) => hidA (step_any j w (by omega) (by omega))
  have v1 := hidA (show wrap64 (bx - ax) = bx - ax from IntWalk.wrap64_in _ ⟨by omega, by omega⟩)
  have v2 := hidA (show wrap64 (by' - ay) = by' - ay from IntWalk.wrap64_in _ ⟨by omega, by omega⟩)
  have v5 := hidA (show wrap64 (-(bx - ax)) = -(bx - ax) from IntWalk.wrap64_in _ ⟨by omega, by omega⟩)
  have v6 := hidA (show wrap64 (-(by' - ay)) = -(by' - ay) from IntWalk.wrap64_in _ ⟨by omega, by omega⟩)
  have hmx := max4_in (x := bx - ax) (y := by' - ay) ⟨by omega, by omega⟩ ⟨by omega, by omega⟩
  have Hbx := hidA (fun (j : Nat) => step_bd (j : Int))
  clear h1 h2 h3 h4
  go_enter Try.func36, Try.ntmps36
  go_upto_region 1 with fail
  have kA : Bk ((w.alloc (.cells #[.int .i64 ax, .int .i64 ay] 32)).alloc (.cells #[.int .i64 bx, .int .i64 by'] 32)) w.heap.size 32 #[.int .i64 ax, .int .i64 ay] := (Bk.new' rfl).alloc _
  have kB : Bk ((w.alloc (.cells #[.int .i64 ax, .int .i64 ay] 32)).alloc (.cells #[.int .i64 bx, .int .i64 by'] 32)) (w.heap.size + 1) 32 #[.int .i64 bx, .int .i64 by'] := Bk.new' (by simp)
  have hx0 : Ext w ((w.alloc (.cells #[.int .i64 ax, .int .i64 ay] 32)).alloc (.cells #[.int .i64 bx, .int .i64 by'] 32)) := ((Ext.refl w).alloc _).alloc _
  generalize (w.alloc (.cells #[.int .i64 ax, .int .i64 ay] 32)).alloc (.cells #[.int .i64 bx, .int .i64 by'] 32) = w0 at *
  have a0 := kA.cell 0
  have a1 := kA.cell 1
  have b0 := kB.cell 0
  have b1 := kB.cell 1
  have V1 := v1.out
  have V2 := v2.out
  go_quiet (fail)
  have hx1 : Ext w (w0.drewN nq) := hx0.drewN nq
  generalize w0.drewN nq = w1 at *
  clear a0 a1 b0 b1 hx0 kA kB
  go_upto_region 3 with fail
  clear v1 v2
  have V5 := v5.out
  have V6 := v6.out
  clear v5 v6
  simp only [V1, V2]
  generalize hxx : bx - ax = x at *
  generalize hyy : by' - ay = y at *
  have HXX := hidA hxx
  have HYY := hidA hyy
  clear hxx hyy
  have HV5 := hidA V5
  have HV6 := hidA V6
  have HV1 := hidA V1
  have HV2 := hidA V2
  clear V5 V6 V1 V2
  obtain ⟨mx, hm⟩ : ∃ mx, mx = max4 x (-x) y (-y) := ⟨_, rfl⟩
  rw [← hm] at hmx
  go_loopw [22] (fun s22 wr => ∃ j : Nat, j ≤ 8 ∧ s22 = .int .i64 j ∧ (∀ i : Nat, i < j → ¬ (0 < mx ∧ stepX i * mx = x ∧ stepY i * mx = y)) ∧ Ext w wr) (fun s22 _ => 8 - (intOf s22).toNat)
  case atStart => exact ⟨0, by omega, rfl, fun i h => by omega, hx1⟩
  case round =>
    clear hx1
    obtain ⟨j, hj, rfl, hno, hx⟩ := hrel
    have Hno := hidA hno
    clear hno
    by_cases hj8 : j < 8
    · have h8 : (j : Int) < 8 := by omega
      have HSj := fun (w : World) => HS j w hj8
      obtain ⟨s1, s2, s3, s4⟩ := Hbx.out j
      obtain ⟨m1, m2⟩ := mul_sgn (s := stepX j) (m := mx) (by omega) hmx.1 hmx.2
      obtain ⟨m3, m4⟩ := mul_sgn (s := stepY j) (m := mx) (by omega) hmx.1 hmx.2
      have W1 := hidA (show wrap64 (stepX j * mx) = stepX j * mx from IntWalk.wrap64_in _ ⟨by omega, by omega⟩)
      have W2 := hidA (show wrap64 (stepY j * mx) = stepY j * mx from IntWalk.wrap64_in _ ⟨by omega, by omega⟩)
      have Hhit := hidA (show 0 < mx → stepX j * mx = x → stepY j * mx = y → leapO x y = some (j, mx.toNat) from fun h1 h2 h3 => by rw [hm] at h1 h2 h3 ⊢; exact leap_hit hj8 h1 h2 h3)
      have Hmx := hidA hmx
      have Hm := hidA hm
      have Hnx := hidA (show ¬ (0 < mx ∧ stepX j * mx = x ∧ stepY j * mx = y) → ∀ i : Nat, i < j + 1 → ¬ (0 < mx ∧ stepX i * mx = x ∧ stepY i * mx = y) from fun h i hi => by
        by_cases e : i = j
        · subst e; exact h
        · exact Hno.out i (by omega))
      have hcase : (¬ 0 < mx ∧ Hid (∀ i : Nat, i < j + 1 → ¬ (0 < mx ∧ stepX i * mx = x ∧ stepY i * mx = y))) ∨ (0 < mx ∧ ¬ stepX j * mx = x ∧ Hid (∀ i : Nat, i < j + 1 → ¬ (0 < mx ∧ stepX i * mx = x ∧ stepY i * mx = y))) ∨ (0 < mx ∧ stepX j * mx = x ∧ ¬ stepY j * mx = y ∧ Hid (∀ i : Nat, i < j + 1 → ¬ (0 < mx ∧ stepX i * mx = x ∧ stepY i * mx = y))) ∨ (0 < mx ∧ stepX j * mx = x ∧ stepY j * mx = y ∧ Hid (leapO x y = some (j, mx.toNat))) := by
        by_cases c1 : 0 < mx
        · by_cases c2 : stepX j * mx = x
          · by_cases c3 : stepY j * mx = y
            · exact .inr (.inr (.inr ⟨c1, c2, c3, Hhit.out c1 c2 c3⟩))
            · exact .inr (.inr (.inl ⟨c1, c2, c3, Hnx.out (fun h => c3 h.2.2)⟩))
          · exact .inr (.inl ⟨c1, c2, Hnx.out (fun h => c2 h.2.1)⟩)
        · exact .inl ⟨c1, Hnx.out (fun h => c1 h.1)⟩
      clear s1 s2 s3 s4 m1 m2 m3 m4 hmx Hhit Hnx
      generalize stepX (j : Int) = sx at *
      generalize stepY (j : Int) = sy at *
      have hm' : max4 x (-x) y (-y) = mx := hm.symm
      clear hm
      have V5 := HV5.out
      have V6 := HV6.out
      go_upto_region 7 with (go_at_call 37; refine ((HSj _).out).mono ?_; rintro e w3 ⟨rfl, hx3⟩)
      clear V5 V6 hm'
      have w1' := W1.out
      have w2' := W2.out
      rcases hcase with ⟨c1, Hq⟩ | ⟨c1, c2, Hq⟩ | ⟨c1, c2, c3, Hq⟩ | ⟨c1, c2, c3, Hq⟩
      · have b1 : decide (0 < mx) = false := by simp; exact c1
        go_wp2
        all_goals
          clear w1' w2' c1 b1
          go_roundw
          case rel => exact ⟨j + 1, by omega, by go_num, Hq.out, hx.trans hx3⟩
          case measure => simp [intOf]; omega
      · have b2 : (sx * mx == x) = false := by simp [c2]
        go_wp2
        all_goals
          clear w1' w2' c1 c2 b2
          go_roundw
          case rel => exact ⟨j + 1, by omega, by go_num, Hq.out, hx.trans hx3⟩
          case measure => simp [intOf]; omega
      · have b3 : (sy * mx == y) = false := by simp [c3]
        go_wp2
        all_goals
          clear w1' w2' c1 c2 c3 b3
          go_roundw
          case rel => exact ⟨j + 1, by omega, by go_num, Hq.out, hx.trans hx3⟩
          case measure => simp [intOf]; omega
      · have hmn : ((mx.toNat : Nat) : Int) = mx := by have := Hmx.out; clear w1' w2' c2 c3; omega
        have HE : Hid (lpV x y = .tuple #[.int .i64 j, .int .i64 mx]) := by show _ = _; unfold lpV; rw [Hq.out]; simp only [hmn]
        clear hmn
        have b1 : decide (0 < mx) = true := by simp; exact c1
        have b2 : (sx * mx == x) = true := by simp [c2]
        have b3 : (sy * mx == y) = true := by simp [c3]
        have V1 := HV1.out
        have V2 := HV2.out
        go_wp2
        go_ret2
        exact ⟨by rw [HXX.out, HYY.out, HE.out]; rfl, hx.trans hx3⟩
    · have hj9 : j = 8 := by omega
      subst hj9
      have HE : Hid (lpV x y = .tuple #[.int .i64 0, .int .i64 0]) := by
        show _ = _
        unfold lpV
        cases h : leapO x y with
        | none => rfl
        | some p =>
          obtain ⟨d, n⟩ := p
          obtain ⟨a1, a2, a3, a4⟩ := leapO_spec h
          have a5 := leap_max h
          rw [← hm] at a5
          exact absurd ⟨by omega, by rw [a5, Int.mul_comm]; exact a3.symm, by rw [a5, Int.mul_comm]; exact a4.symm⟩ (Hno.out d a1)
      go_wp2
      go_ret2
      exact ⟨by rw [HXX.out, HYY.out, HE.out]; rfl, hx⟩
end Go.Proofs.Ytpgdinpckolfpaa
