/- Contracts: water.Direction, road.Between: in which direction, and how many steps away, a place lies. -/
import Derived.Test.YtpgdinpckolfpaaRdI
import Derived.Deep.RegionLaw
import Derived.Deep.RegionHeld3
namespace Go.Proofs.Ytpgdinpckolfpaa
open Go.RowKit
attribute [local go_sem ↓] Go.wp_at_zero Go.wp_at_succ

def max4 (x y z u : Int) : Int := max (max (max x y) z) u
theorem run_max4 {P : Program} (w : World) (ts : Array TypeId) (t : TypeId) (k k1 k2 k3 : IntKind) (x y z u : Int) :
    (Builtin.max_ ts t #[.int k x, .int k1 y, .int k2 z, .int k3 u]).run P w = .ok (.int k (max4 x y z u)) w := by
  have e : ∀ a b : Int, (if b > a then b else a) = max a b := fun a b => by split <;> omega
  simp [Builtin.max_, Builtin.max2, e, max4]
attribute [local go_sem] run_max4
theorem put_mk (l : List Value) (D : List Deferred) (d : Nat) (v : Value) : Act.put ⟨l.toArray, D⟩ (some d) v = ⟨(l.set d v).toArray, D⟩ := by simp [Act.put]
/-- the direction and the number of steps of a difference of places -/
def leapO (x y : Int) : Option (Nat × Nat) :=
  if y = 0 then (if 0 < x then some (0, x.toNat) else if x < 0 then some (4, (-x).toNat) else none)
  else if x = 0 then (if 0 < y then some (2, y.toNat) else some (6, (-y).toNat))
  else if x = y then (if 0 < x then some (1, x.toNat) else some (5, (-x).toNat))
  else if x = -y then (if 0 < x then some (7, x.toNat) else some (3, (-x).toNat))
  else none
theorem leapO_spec {x y : Int} {d n : Nat} (h : leapO x y = some (d, n)) : d < 8 ∧ 1 ≤ n ∧ x = n * stepX d ∧ y = n * stepY d := by
  unfold leapO at h
  repeat' (split at h)
  all_goals first
    | (cases h; done)
    | (injection h with h; injection h with h1 h2; subst h1; subst h2; refine ⟨by omega, by omega, ?_, ?_⟩ <;> simp [stepX, stepY] <;> omega)
theorem leap_0 {n : Nat} (hn : 1 ≤ n) : leapO (n : Int) (0 : Int) = some (0, n) := by
  unfold leapO
  rw [if_pos (by omega), if_pos (by omega)]
  first | rfl | (congr 2; omega)
theorem leap_1 {n : Nat} (hn : 1 ≤ n) : leapO (n : Int) (n : Int) = some (1, n) := by
  unfold leapO
  rw [if_neg (by omega), if_neg (by omega), if_pos (by omega), if_pos (by omega)]
  first | rfl | (congr 2; omega)
theorem leap_2 {n : Nat} (hn : 1 ≤ n) : leapO (0 : Int) (n : Int) = some (2, n) := by
  unfold leapO
  rw [if_neg (by omega), if_pos (by omega), if_pos (by omega)]
  first | rfl | (congr 2; omega)
theorem leap_3 {n : Nat} (hn : 1 ≤ n) : leapO (-(n : Int)) (n : Int) = some (3, n) := by
  unfold leapO
  rw [if_neg (by omega), if_neg (by omega), if_neg (by omega), if_pos (by omega), if_neg (by omega)]
  first | rfl | (congr 2; omega)
theorem leap_4 {n : Nat} (hn : 1 ≤ n) : leapO (-(n : Int)) (0 : Int) = some (4, n) := by
  unfold leapO
  rw [if_pos (by omega), if_neg (by omega), if_pos (by omega)]
  first | rfl | (congr 2; omega)
theorem leap_5 {n : Nat} (hn : 1 ≤ n) : leapO (-(n : Int)) (-(n : Int)) = some (5, n) := by
  unfold leapO
  rw [if_neg (by omega), if_neg (by omega), if_pos (by omega), if_neg (by omega)]
  first | rfl | (congr 2; omega)
theorem leap_6 {n : Nat} (hn : 1 ≤ n) : leapO (0 : Int) (-(n : Int)) = some (6, n) := by
  unfold leapO
  rw [if_neg (by omega), if_pos (by omega), if_neg (by omega)]
  first | rfl | (congr 2; omega)
theorem leap_7 {n : Nat} (hn : 1 ≤ n) : leapO (n : Int) (-(n : Int)) = some (7, n) := by
  unfold leapO
  rw [if_neg (by omega), if_neg (by omega), if_neg (by omega), if_pos (by omega), if_pos (by omega)]
  first | rfl | (congr 2; omega)
theorem leapO_of {d n : Nat} (hd : d < 8) (hn : 1 ≤ n) : leapO (n * stepX d) (n * stepY d) = some (d, n) := by
  have h : d = 0 ∨ d = 1 ∨ d = 2 ∨ d = 3 ∨ d = 4 ∨ d = 5 ∨ d = 6 ∨ d = 7 := by omega
  rcases h with rfl | rfl | rfl | rfl | rfl | rfl | rfl | rfl
  · rw [show stepX ((0 : Nat) : Int) = 1 by decide, show stepY ((0 : Nat) : Int) = 0 by decide]
    simp only [Int.mul_one, Int.mul_zero]
    exact leap_0 hn
  · rw [show stepX ((1 : Nat) : Int) = 1 by decide, show stepY ((1 : Nat) : Int) = 1 by decide]
    simp only [Int.mul_one]
    exact leap_1 hn
  · rw [show stepX ((2 : Nat) : Int) = 0 by decide, show stepY ((2 : Nat) : Int) = 1 by decide]
    simp only [Int.mul_one, Int.mul_zero]
    exact leap_2 hn
  · rw [show stepX ((3 : Nat) : Int) = -1 by decide, show stepY ((3 : Nat) : Int) = 1 by decide]
    simp only [Int.mul_neg, Int.mul_one]
    exact leap_3 hn
  · rw [show stepX ((4 : Nat) : Int) = -1 by decide, show stepY ((4 : Nat) : Int) = 0 by decide]
    simp only [Int.mul_neg, Int.mul_one, Int.mul_zero]
    exact leap_4 hn
  · rw [show stepX ((5 : Nat) : Int) = -1 by decide, show stepY ((5 : Nat) : Int) = -1 by decide]
    simp only [Int.mul_neg, Int.mul_one]
    exact leap_5 hn
  · rw [show stepX ((6 : Nat) : Int) = 0 by decide, show stepY ((6 : Nat) : Int) = -1 by decide]
    simp only [Int.mul_neg, Int.mul_one, Int.mul_zero]
    exact leap_6 hn
  · rw [show stepX ((7 : Nat) : Int) = 1 by decide, show stepY ((7 : Nat) : Int) = -1 by decide]
    simp only [Int.mul_neg, Int.mul_one]
    exact leap_7 hn
/-- what is told of them -/
def btV (x y : Int) : Value := match leapO x y with
  | none => .tuple #[.int .i64 (-1), .int .i64 0]
  | some (d, n) => .tuple #[.int .i64 d, .int .i64 n]

set_option maxRecDepth 100000 in
set_option maxHeartbeats 3200000 in
theorem direction_any (d : Nat) (w : World) (hd : d < 8) :
    Calls Try.prog 113 #[.agg #[.int .i64 0, .int .i64 0], .agg #[.int .i64 (stepX d), .int .i64 (stepY d)]] w fun e w' => e = .returned (.int .i64 d) ∧ Ext w w' := by
  have HT := fun (j : Nat) (w : World) (h : j < 8) => hidA (toward_any j w (by omega) (by omega))
  have Hne : ∀ j, j < d → stepX j = stepX d → stepY j = stepY d → False := by
    have h : d = 0 ∨ d = 1 ∨ d = 2 ∨ d = 3 ∨ d = 4 ∨ d = 5 ∨ d = 6 ∨ d = 7 := by omega
    intro j hj
    have hjj : j = 0 ∨ j = 1 ∨ j = 2 ∨ j = 3 ∨ j = 4 ∨ j = 5 ∨ j = 6 ∨ j = 7 := by omega
    rcases h with rfl | rfl | rfl | rfl | rfl | rfl | rfl | rfl <;> rcases hjj with rfl | rfl | rfl | rfl | rfl | rfl | rfl | rfl <;> first | omega | (intro h1 h2; revert h1 h2; decide)
  have Hbx := fun (j : Nat) => step_bd (j : Int)
  have HNe := hidA Hne
  have HBx := hidA Hbx
  clear Hne Hbx
  go_enter Try.func113, Try.ntmps113
  go_upto_region 2 with fail
  have kA : Bk ((w.alloc (.cells #[.int .i64 0, .int .i64 0] 32)).alloc (.cells #[.int .i64 (stepX d), .int .i64 (stepY d)] 32)) w.heap.size 32 #[.int .i64 0, .int .i64 0] := (Bk.new' rfl).alloc _
  have kB : Bk ((w.alloc (.cells #[.int .i64 0, .int .i64 0] 32)).alloc (.cells #[.int .i64 (stepX d), .int .i64 (stepY d)] 32)) (w.heap.size + 1) 32 #[.int .i64 (stepX d), .int .i64 (stepY d)] := Bk.new' (by simp)
  have hx0 : Ext w ((w.alloc (.cells #[.int .i64 0, .int .i64 0] 32)).alloc (.cells #[.int .i64 (stepX d), .int .i64 (stepY d)] 32)) := ((Ext.refl w).alloc _).alloc _
  generalize (w.alloc (.cells #[.int .i64 0, .int .i64 0] 32)).alloc (.cells #[.int .i64 (stepX d), .int .i64 (stepY d)] 32) = w0 at *
  generalize w.heap.size + 1 = hb at *
  generalize w.heap.size = ha at *
  go_loopw [7] (fun s7 wr => ∃ j : Nat, j ≤ d ∧ s7 = .int .i64 j ∧ Ext w0 wr) (fun s7 _ => d + 1 - (intOf s7).toNat)
  case atStart => exact ⟨0, Nat.zero_le _, rfl, Ext.refl _⟩
  case round =>
    obtain ⟨j, hj, rfl, hx⟩ := hrel
    have h8 : (j : Int) < 8 := by omega
    have HTj := fun (w : World) => HT j w (by omega)
    have HA := hidA (kA.ext hx)
    have HB := hidA (kB.ext hx)
    obtain ⟨s1, s2, s3, s4⟩ := HBx.out j
    by_cases e : j = d
    · subst e
      generalize stepX (j : Int) = sx at *
      generalize stepY (j : Int) = sy at *
      go_upto_region 5 with (go_at_call 79; refine ((HTj _).out).mono ?_; rintro e w3 ⟨rfl, hx3⟩)
      have kT : Bk (w3.alloc (.cells #[.int .i64 sx, .int .i64 sy] 32)) w3.heap.size 32 #[.int .i64 sx, .int .i64 sy] := Bk.new' rfl
      have k1 := (HA.out.ext hx3).alloc (.cells #[.int .i64 sx, .int .i64 sy] 32)
      have k2 := (HB.out.ext hx3).alloc (.cells #[.int .i64 sx, .int .i64 sy] 32)
      have hx4 : Ext w (w3.alloc (.cells #[.int .i64 sx, .int .i64 sy] 32)) := (((hx0.trans hx).trans hx3).alloc _)
      generalize w3.alloc (.cells #[.int .i64 sx, .int .i64 sy] 32) = w4 at *
      generalize w3.heap.size = ht at *
      have a0 := k1.cell 0
      have a1 := k1.cell 1
      have b0 := k2.cell 0
      have b1 := k2.cell 1
      have t0 := kT.cell 0
      have t1 := kT.cell 1
      have e1 : wrap64 (0 + sx) = sx := by rw [Int.zero_add]; exact IntWalk.wrap64_in _ ⟨by omega, by omega⟩
      have e2 : wrap64 (0 + sy) = sy := by rw [Int.zero_add]; exact IntWalk.wrap64_in _ ⟨by omega, by omega⟩
      have e3 : wrap64 sx = sx := IntWalk.wrap64_in _ ⟨by omega, by omega⟩
      have e4 : wrap64 sy = sy := IntWalk.wrap64_in _ ⟨by omega, by omega⟩
      clear HT HA HB HNe HBx kA kB
      go_wp2
      go_ret
      exact ⟨rfl, hx4⟩
    · have hjd : j < d := by omega
      have Hne := HNe.out j hjd
      obtain ⟨u1, u2, u3, u4⟩ := HBx.out d
      have hcase : ¬ stepX (j : Int) = stepX (d : Int) ∨ stepX (j : Int) = stepX (d : Int) ∧ ¬ stepY (j : Int) = stepY (d : Int) := by
        by_cases h1 : stepX (j : Int) = stepX (d : Int)
        · exact .inr ⟨h1, fun h2 => Hne h1 h2⟩
        · exact .inl h1
      clear Hne
      have Hhx := hidA hx
      clear hx e
      generalize stepX (j : Int) = sx at *
      generalize stepY (j : Int) = sy at *
      generalize stepX (d : Int) = dx at *
      generalize stepY (d : Int) = dy at *
      go_upto_region 5 with (go_at_call 79; refine ((HTj _).out).mono ?_; rintro e w3 ⟨rfl, hx3⟩)
      have kT : Bk (w3.alloc (.cells #[.int .i64 sx, .int .i64 sy] 32)) w3.heap.size 32 #[.int .i64 sx, .int .i64 sy] := Bk.new' rfl
      have k1 := (HA.out.ext hx3).alloc (.cells #[.int .i64 sx, .int .i64 sy] 32)
      have k2 := (HB.out.ext hx3).alloc (.cells #[.int .i64 sx, .int .i64 sy] 32)
      have hx4 : Ext w0 (w3.alloc (.cells #[.int .i64 sx, .int .i64 sy] 32)) := ((Hhx.out.trans hx3).alloc _)
      generalize w3.alloc (.cells #[.int .i64 sx, .int .i64 sy] 32) = w4 at *
      generalize w3.heap.size = ht at *
      have a0 := k1.cell 0
      have a1 := k1.cell 1
      have b0 := k2.cell 0
      have b1 := k2.cell 1
      have t0 := kT.cell 0
      have t1 := kT.cell 1
      have e1 : wrap64 (0 + sx) = sx := by rw [Int.zero_add]; exact IntWalk.wrap64_in _ ⟨by omega, by omega⟩
      have e2 : wrap64 (0 + sy) = sy := by rw [Int.zero_add]; exact IntWalk.wrap64_in _ ⟨by omega, by omega⟩
      have e3 : wrap64 sx = sx := IntWalk.wrap64_in _ ⟨by omega, by omega⟩
      have e4 : wrap64 sy = sy := IntWalk.wrap64_in _ ⟨by omega, by omega⟩
      have Hx4 := hidA hx4
      have Hjd := hidA hjd
      clear HT HA HB HNe HBx kA kB hx4 k1 k2 kT s1 s2 s3 s4 u1 u2 u3 u4
      rcases hcase with c1 | ⟨rfl, c2⟩
      · go_wp2
        go_roundw
        case rel => exact ⟨j + 1, Hjd.out, by go_num, Hx4.out⟩
        case measure => have := Hjd.out; simp [intOf]; omega
      · go_wp2
        go_roundw
        case rel => exact ⟨j + 1, Hjd.out, by go_num, Hx4.out⟩
        case measure => have := Hjd.out; simp [intOf]; omega
set_option maxRecDepth 100000 in
set_option maxHeartbeats 6400000 in
theorem between_0 (ax ay bx by' : Int) (n : Nat) (w : World) (h1 : -16777216 ≤ ax ∧ ax ≤ 16777216) (h2 : -16777216 ≤ ay ∧ ay ≤ 16777216) (h3 : -16777216 ≤ bx ∧ bx ≤ 16777216) (h4 : -16777216 ≤ by' ∧ by' ≤ 16777216) (hn : 1 ≤ n) (hx : bx - ax = (n : Int)) (hy : by' - ay = 0) :
    Calls Try.prog 78 #[.agg #[.int .i64 ax, .int .i64 ay], .agg #[.int .i64 bx, .int .i64 by']] w fun e w' => e = .returned (.tuple #[.int .i64 0, .int .i64 n]) ∧ Ext w w' := by
  have hq := And.intro (And.intro h1 h2) (And.intro h3 h4)
  have hnb : n ≤ 33554432 := by omega
  clear hq
  have n0 : ¬ (n : Int) = 0 := by omega
  have nz : ¬ n = 0 := by omega
  have n1 : ¬ (-(n : Int)) = 0 := by omega
  have n2 : ¬ (n : Int) = -(n : Int) := by omega
  have n3 : ¬ (-(n : Int)) = (n : Int) := by omega
  have v1 := hidA (show wrap64 (bx - ax) = (n : Int) by rw [hx]; exact IntWalk.wrap64_in _ ⟨by omega, by omega⟩)
  have v2 := hidA (show wrap64 (by' - ay) = 0 by rw [hy]; exact IntWalk.wrap64_in _ ⟨by omega, by omega⟩)
  have v3 := hidA (show max4 (n : Int) (-(n : Int)) 0 0 = (n : Int) by unfold max4; omega)
  have m1 := hidA (show wrap64 (-(n : Int)) = -(n : Int) from IntWalk.wrap64_in _ ⟨by omega, by omega⟩)
  have m3 := hidA (show wrap64 (n : Int) = (n : Int) from IntWalk.wrap64_in _ ⟨by omega, by omega⟩)
  have HD := fun (w : World) => hidA (direction_any 0 w (by omega))
  have d1 : stepX (0 : Nat) = 1 := by decide
  have d2 : stepY (0 : Nat) = 0 := by decide
  rw [d1, d2] at HD
  have t1 := hidA (show Int.tdiv (n : Int) (n : Int) = 1 from Int.tdiv_self (by omega))
  have t2 := hidA (show Int.tdiv (-(n : Int)) (n : Int) = -1 by rw [Int.neg_tdiv, t1.out])
  have t3 : Int.tdiv 0 (n : Int) = 0 := Int.zero_tdiv _
  have v1 := v1.out
  have v2 := v2.out
  have v3 := v3.out
  have m1 := m1.out
  have m3 := m3.out
  have t1 := t1.out
  have t2 := t2.out
  clear hx hy d1 d2
  go_enter Try.func78, Try.ntmps78
  go_upto_region 1 with fail
  have kA : Bk ((w.alloc (.cells #[.int .i64 ax, .int .i64 ay] 32)).alloc (.cells #[.int .i64 bx, .int .i64 by'] 32)) w.heap.size 32 #[.int .i64 ax, .int .i64 ay] := (Bk.new' rfl).alloc _
  have kB : Bk ((w.alloc (.cells #[.int .i64 ax, .int .i64 ay] 32)).alloc (.cells #[.int .i64 bx, .int .i64 by'] 32)) (w.heap.size + 1) 32 #[.int .i64 bx, .int .i64 by'] := Bk.new' (by simp)
  have hx0 : Ext w ((w.alloc (.cells #[.int .i64 ax, .int .i64 ay] 32)).alloc (.cells #[.int .i64 bx, .int .i64 by'] 32)) := ((Ext.refl w).alloc _).alloc _
  generalize (w.alloc (.cells #[.int .i64 ax, .int .i64 ay] 32)).alloc (.cells #[.int .i64 bx, .int .i64 by'] 32) = w0 at *
  have a0 := kA.cell 0
  have a1 := kA.cell 1
  have b0 := kB.cell 0
  have b1 := kB.cell 1
  clear kA kB h1 h2 h3 h4
  go_quiet (fail)
  have hx1 : Ext w (w0.drewN nq) := hx0.drewN nq
  generalize w0.drewN nq = w1 at *
  clear a0 a1 b0 b1 hx0
  go_upto_region 5 with fail
  refine wp_region_noPanic ?_
  refine wp_region_held_drew (S := fun w' => Ext w w') (by kernel_rfl) ?_ (fun hHeld => ?_)
  · (first | (repeat (first | exact Ext.refl _ | assumption | refine Ext.setCell ?_ (by first | (simp; done) | (simp; omega)) _ | refine Ext.drewN ?_ _ | refine Ext.alloc ?_ _ | refine Ext.drew ?_ | refine Ext.trans ?_ (by assumption))))
  refine wpAnyH_take (i := 0) (oi := ?o1x0) (v := ?v1x0) ?hi1x0 (by kernel_rfl) ?hf1x0 ?hr1x0 (fun _ _ _ h => h) ?hy1x0 (by assumption) ?rest1x0
  case hi1x0 => (simp only [List.getElem?_toArray, List.getElem?_cons_zero]; exact rfl)
  case hf1x0 => kernel_rfl
  case hr1x0 => kernel_rfl
  case hy1x0 => (refine Or.inl ⟨by rfl, ?_⟩; intro w hSw; (try dsimp only at hSw); go_simp; try with_reducible rfl)
  simp only [put_mk, List.set_cons_succ, List.set_cons_zero]
  refine wpAnyH_take (i := 1) (oi := ?o1x1) (v := ?v1x1) ?hi1x1 (by kernel_rfl) ?hf1x1 ?hr1x1 (fun _ _ _ h => h) ?hy1x1 (by assumption) ?rest1x1
  case hi1x1 => (simp only [List.getElem?_toArray, List.getElem?_cons_succ, List.getElem?_cons_zero]; exact rfl)
  case hf1x1 => kernel_rfl
  case hr1x1 => kernel_rfl
  case hy1x1 => (refine Or.inl ⟨by rfl, ?_⟩; intro w hSw; (try dsimp only at hSw); go_simp; try with_reducible rfl)
  simp only [put_mk, List.set_cons_succ, List.set_cons_zero]
  refine wpAnyH_take (i := 2) (oi := ?o1x2) (v := ?v1x2) ?hi1x2 (by kernel_rfl) ?hf1x2 ?hr1x2 (fun _ _ _ h => h) ?hy1x2 (by assumption) ?rest1x2
  case hi1x2 => (simp only [List.getElem?_toArray, List.getElem?_cons_succ, List.getElem?_cons_zero]; exact rfl)
  case hf1x2 => kernel_rfl
  case hr1x2 => kernel_rfl
  case hy1x2 => (refine Or.inl ⟨by rfl, ?_⟩; intro w hSw; (try dsimp only at hSw); go_simp; try with_reducible rfl)
  simp only [put_mk, List.set_cons_succ, List.set_cons_zero]
  refine wpAnyH_take (i := 3) (oi := ?o1x3) (v := ?v1x3) ?hi1x3 (by kernel_rfl) ?hf1x3 ?hr1x3 (fun _ _ _ h => h) ?hy1x3 (by assumption) ?rest1x3
  case hi1x3 => (simp only [List.getElem?_toArray, List.getElem?_cons_succ, List.getElem?_cons_zero]; exact rfl)
  case hf1x3 => kernel_rfl
  case hr1x3 => kernel_rfl
  case hy1x3 => (refine Or.inl ⟨by rfl, ?_⟩; intro w hSw; (try dsimp only at hSw); go_simp; try with_reducible rfl)
  simp only [put_mk, List.set_cons_succ, List.set_cons_zero]
  refine wpAnyH_take (i := 4) (oi := ?o1x4) (v := ?v1x4) ?hi1x4 (by kernel_rfl) ?hf1x4 ?hr1x4 (fun _ _ _ h => h) ?hy1x4 (by assumption) ?rest1x4
  case hi1x4 => (simp only [List.getElem?_toArray, List.getElem?_cons_succ, List.getElem?_cons_zero]; exact rfl)
  case hf1x4 => kernel_rfl
  case hr1x4 => kernel_rfl
  case hy1x4 => (refine Or.inl ⟨by rfl, ?_⟩; intro w hSw; (try dsimp only at hSw); go_simp; try with_reducible rfl)
  simp only [put_mk, List.set_cons_succ, List.set_cons_zero]
  refine wpAnyH_take (i := 5) (oi := ?o1x5) (v := ?v1x5) ?hi1x5 (by kernel_rfl) ?hf1x5 ?hr1x5 (fun _ _ _ h => h) ?hy1x5 (by assumption) ?rest1x5
  case hi1x5 => (simp only [List.getElem?_toArray, List.getElem?_cons_succ, List.getElem?_cons_zero]; exact rfl)
  case hf1x5 => kernel_rfl
  case hr1x5 => kernel_rfl
  case hy1x5 => (refine Or.inl ⟨by rfl, ?_⟩; intro w hSw; (try dsimp only at hSw); go_simp; try with_reducible rfl)
  simp only [put_mk, List.set_cons_succ, List.set_cons_zero]
  refine wpAnyH_take (i := 6) (oi := ?o1x6) (v := ?v1x6) ?hi1x6 (by kernel_rfl) ?hf1x6 ?hr1x6 (fun _ _ _ h => h) ?hy1x6 (by assumption) ?rest1x6
  case hi1x6 => (simp only [List.getElem?_toArray, List.getElem?_cons_succ, List.getElem?_cons_zero]; exact rfl)
  case hf1x6 => kernel_rfl
  case hr1x6 => kernel_rfl
  case hy1x6 => (refine Or.inl ⟨by rfl, ?_⟩; intro w hSw; (try dsimp only at hSw); go_simp; try with_reducible rfl)
  simp only [put_mk, List.set_cons_succ, List.set_cons_zero]
  refine wpAnyH_take (i := 7) (oi := ?o1x7) (v := ?v1x7) ?hi1x7 (by kernel_rfl) ?hf1x7 ?hr1x7 (fun _ _ _ h => h) ?hy1x7 (by assumption) ?rest1x7
  case hi1x7 => (simp only [List.getElem?_toArray, List.getElem?_cons_succ, List.getElem?_cons_zero]; exact rfl)
  case hf1x7 => kernel_rfl
  case hr1x7 => kernel_rfl
  case hy1x7 => (refine Or.inl ⟨by rfl, ?_⟩; intro w hSw; (try dsimp only at hSw); go_simp; try with_reducible rfl)
  simp only [put_mk, List.set_cons_succ, List.set_cons_zero]
  refine wpAnyH_take (i := 9) (oi := ?o1x9) (v := ?v1x9) ?hi1x9 (by kernel_rfl) ?hf1x9 ?hr1x9 (fun _ _ _ h => h) ?hy1x9 (by assumption) ?rest1x9
  case hi1x9 => (simp only [List.getElem?_toArray, List.getElem?_cons_succ, List.getElem?_cons_zero]; exact rfl)
  case hf1x9 => kernel_rfl
  case hr1x9 => kernel_rfl
  case hy1x9 => (refine Or.inl ⟨by rfl, ?_⟩; intro w hSw; (try dsimp only at hSw); go_simp; try with_reducible rfl)
  simp only [put_mk, List.set_cons_succ, List.set_cons_zero]
  refine wpAnyH_ready (rs := [8]) (by kernel_rfl) (by simp) ?_
  refine AllReadyH.cons (o := ?o1x8) ?hi1x8 (fun K hK => ?_) AllReadyH.nil
  case hi1x8 => (simp only [List.getElem?_toArray, List.getElem?_cons_succ, List.getElem?_cons_zero]; exact rfl)
  go_simp
  go_at_call 113; refine (HD _).out.mono ?_; rintro e w5 ⟨rfl, hx5⟩
  refine hK.out _ _ ?_ (fun hHeld => ?_)
  · (first | (repeat (first | exact Ext.refl _ | assumption | refine Ext.setCell ?_ (by first | (simp; done) | (simp; omega)) _ | refine Ext.drewN ?_ _ | refine Ext.alloc ?_ _ | refine Ext.drew ?_ | refine Ext.trans ?_ (by assumption))))
  clear hK K
  refine wpAnyH_take (i := 10) (oi := ?o1x10) (v := ?v1x10) ?hi1x10 (by kernel_rfl) ?hf1x10 ?hr1x10 (fun _ _ _ h => h) ?hy1x10 (by assumption) ?rest1x10
  case hi1x10 => (simp only [List.getElem?_toArray, List.getElem?_cons_succ, List.getElem?_cons_zero]; exact rfl)
  case hf1x10 => kernel_rfl
  case hr1x10 => kernel_rfl
  case hy1x10 => (refine Or.inl ⟨by rfl, ?_⟩; intro w hSw; (try dsimp only at hSw); go_simp; try with_reducible rfl)
  simp only [put_mk, List.set_cons_succ, List.set_cons_zero]
  refine wpAnyH_take (i := 11) (oi := ?o1x11) (v := ?v1x11) ?hi1x11 (by kernel_rfl) ?hf1x11 ?hr1x11 (fun _ _ _ h => h) ?hy1x11 (by assumption) ?rest1x11
  case hi1x11 => (simp only [List.getElem?_toArray, List.getElem?_cons_succ, List.getElem?_cons_zero]; exact rfl)
  case hf1x11 => kernel_rfl
  case hr1x11 => kernel_rfl
  case hy1x11 => (refine Or.inl ⟨by rfl, ?_⟩; intro w hSw; (try dsimp only at hSw); go_simp; try with_reducible rfl)
  simp only [put_mk, List.set_cons_succ, List.set_cons_zero]
  refine wpAnyH_done (by kernel_rfl) ?_ _
  refine NoPanic.normal ?_
  go_wp2_with fail
  go_ret2
  exact ⟨rfl, (by repeat (first | exact Ext.refl _ | assumption | refine Ext.setCell ?_ (by first | (simp; done) | (simp; omega)) _ | refine Ext.drewN ?_ _ | refine Ext.alloc ?_ _ | refine Ext.drew ?_ | refine Ext.trans ?_ (by assumption)))⟩
set_option maxRecDepth 100000 in
set_option maxHeartbeats 6400000 in
theorem between_1 (ax ay bx by' : Int) (n : Nat) (w : World) (h1 : -16777216 ≤ ax ∧ ax ≤ 16777216) (h2 : -16777216 ≤ ay ∧ ay ≤ 16777216) (h3 : -16777216 ≤ bx ∧ bx ≤ 16777216) (h4 : -16777216 ≤ by' ∧ by' ≤ 16777216) (hn : 1 ≤ n) (hx : bx - ax = (n : Int)) (hy : by' - ay = (n : Int)) :
    Calls Try.prog 78 #[.agg #[.int .i64 ax, .int .i64 ay], .agg #[.int .i64 bx, .int .i64 by']] w fun e w' => e = .returned (.tuple #[.int .i64 1, .int .i64 n]) ∧ Ext w w' := by
  have hq := And.intro (And.intro h1 h2) (And.intro h3 h4)
  have hnb : n ≤ 33554432 := by omega
  clear hq
  have n0 : ¬ (n : Int) = 0 := by omega
  have nz : ¬ n = 0 := by omega
  have n1 : ¬ (-(n : Int)) = 0 := by omega
  have n2 : ¬ (n : Int) = -(n : Int) := by omega
  have n3 : ¬ (-(n : Int)) = (n : Int) := by omega
  have v1 := hidA (show wrap64 (bx - ax) = (n : Int) by rw [hx]; exact IntWalk.wrap64_in _ ⟨by omega, by omega⟩)
  have v2 := hidA (show wrap64 (by' - ay) = (n : Int) by rw [hy]; exact IntWalk.wrap64_in _ ⟨by omega, by omega⟩)
  have v3 := hidA (show max4 (n : Int) (-(n : Int)) (n : Int) (-(n : Int)) = (n : Int) by unfold max4; omega)
  have m1 := hidA (show wrap64 (-(n : Int)) = -(n : Int) from IntWalk.wrap64_in _ ⟨by omega, by omega⟩)
  have m3 := hidA (show wrap64 (n : Int) = (n : Int) from IntWalk.wrap64_in _ ⟨by omega, by omega⟩)
  have HD := fun (w : World) => hidA (direction_any 1 w (by omega))
  have d1 : stepX (1 : Nat) = 1 := by decide
  have d2 : stepY (1 : Nat) = 1 := by decide
  rw [d1, d2] at HD
  have t1 := hidA (show Int.tdiv (n : Int) (n : Int) = 1 from Int.tdiv_self (by omega))
  have t2 := hidA (show Int.tdiv (-(n : Int)) (n : Int) = -1 by rw [Int.neg_tdiv, t1.out])
  have t3 : Int.tdiv 0 (n : Int) = 0 := Int.zero_tdiv _
  have v1 := v1.out
  have v2 := v2.out
  have v3 := v3.out
  have m1 := m1.out
  have m3 := m3.out
  have t1 := t1.out
  have t2 := t2.out
  clear hx hy d1 d2
  go_enter Try.func78, Try.ntmps78
  go_upto_region 1 with fail
  have kA : Bk ((w.alloc (.cells #[.int .i64 ax, .int .i64 ay] 32)).alloc (.cells #[.int .i64 bx, .int .i64 by'] 32)) w.heap.size 32 #[.int .i64 ax, .int .i64 ay] := (Bk.new' rfl).alloc _
  have kB : Bk ((w.alloc (.cells #[.int .i64 ax, .int .i64 ay] 32)).alloc (.cells #[.int .i64 bx, .int .i64 by'] 32)) (w.heap.size + 1) 32 #[.int .i64 bx, .int .i64 by'] := Bk.new' (by simp)
  have hx0 : Ext w ((w.alloc (.cells #[.int .i64 ax, .int .i64 ay] 32)).alloc (.cells #[.int .i64 bx, .int .i64 by'] 32)) := ((Ext.refl w).alloc _).alloc _
  generalize (w.alloc (.cells #[.int .i64 ax, .int .i64 ay] 32)).alloc (.cells #[.int .i64 bx, .int .i64 by'] 32) = w0 at *
  have a0 := kA.cell 0
  have a1 := kA.cell 1
  have b0 := kB.cell 0
  have b1 := kB.cell 1
  clear kA kB h1 h2 h3 h4
  go_quiet (fail)
  have hx1 : Ext w (w0.drewN nq) := hx0.drewN nq
  generalize w0.drewN nq = w1 at *
  clear a0 a1 b0 b1 hx0
  go_upto_region 5 with fail
  refine wp_region_noPanic ?_
  refine wp_region_held_drew (S := fun w' => Ext w w') (by kernel_rfl) ?_ (fun hHeld => ?_)
  · (first | (repeat (first | exact Ext.refl _ | assumption | refine Ext.setCell ?_ (by first | (simp; done) | (simp; omega)) _ | refine Ext.drewN ?_ _ | refine Ext.alloc ?_ _ | refine Ext.drew ?_ | refine Ext.trans ?_ (by assumption))))
  refine wpAnyH_take (i := 0) (oi := ?o2x0) (v := ?v2x0) ?hi2x0 (by kernel_rfl) ?hf2x0 ?hr2x0 (fun _ _ _ h => h) ?hy2x0 (by assumption) ?rest2x0
  case hi2x0 => (simp only [List.getElem?_toArray, List.getElem?_cons_zero]; exact rfl)
  case hf2x0 => kernel_rfl
  case hr2x0 => kernel_rfl
  case hy2x0 => (refine Or.inl ⟨by rfl, ?_⟩; intro w hSw; (try dsimp only at hSw); go_simp; try with_reducible rfl)
  simp only [put_mk, List.set_cons_succ, List.set_cons_zero]
  refine wpAnyH_take (i := 1) (oi := ?o2x1) (v := ?v2x1) ?hi2x1 (by kernel_rfl) ?hf2x1 ?hr2x1 (fun _ _ _ h => h) ?hy2x1 (by assumption) ?rest2x1
  case hi2x1 => (simp only [List.getElem?_toArray, List.getElem?_cons_succ, List.getElem?_cons_zero]; exact rfl)
  case hf2x1 => kernel_rfl
  case hr2x1 => kernel_rfl
  case hy2x1 => (refine Or.inl ⟨by rfl, ?_⟩; intro w hSw; (try dsimp only at hSw); go_simp; try with_reducible rfl)
  simp only [put_mk, List.set_cons_succ, List.set_cons_zero]
  refine wpAnyH_take (i := 2) (oi := ?o2x2) (v := ?v2x2) ?hi2x2 (by kernel_rfl) ?hf2x2 ?hr2x2 (fun _ _ _ h => h) ?hy2x2 (by assumption) ?rest2x2
  case hi2x2 => (simp only [List.getElem?_toArray, List.getElem?_cons_succ, List.getElem?_cons_zero]; exact rfl)
  case hf2x2 => kernel_rfl
  case hr2x2 => kernel_rfl
  case hy2x2 => (refine Or.inl ⟨by rfl, ?_⟩; intro w hSw; (try dsimp only at hSw); go_simp; try with_reducible rfl)
  simp only [put_mk, List.set_cons_succ, List.set_cons_zero]
  refine wpAnyH_take (i := 3) (oi := ?o2x3) (v := ?v2x3) ?hi2x3 (by kernel_rfl) ?hf2x3 ?hr2x3 (fun _ _ _ h => h) ?hy2x3 (by assumption) ?rest2x3
  case hi2x3 => (simp only [List.getElem?_toArray, List.getElem?_cons_succ, List.getElem?_cons_zero]; exact rfl)
  case hf2x3 => kernel_rfl
  case hr2x3 => kernel_rfl
  case hy2x3 => (refine Or.inl ⟨by rfl, ?_⟩; intro w hSw; (try dsimp only at hSw); go_simp; try with_reducible rfl)
  simp only [put_mk, List.set_cons_succ, List.set_cons_zero]
  refine wpAnyH_take (i := 4) (oi := ?o2x4) (v := ?v2x4) ?hi2x4 (by kernel_rfl) ?hf2x4 ?hr2x4 (fun _ _ _ h => h) ?hy2x4 (by assumption) ?rest2x4
  case hi2x4 => (simp only [List.getElem?_toArray, List.getElem?_cons_succ, List.getElem?_cons_zero]; exact rfl)
  case hf2x4 => kernel_rfl
  case hr2x4 => kernel_rfl
  case hy2x4 => (refine Or.inl ⟨by rfl, ?_⟩; intro w hSw; (try dsimp only at hSw); go_simp; try with_reducible rfl)
  simp only [put_mk, List.set_cons_succ, List.set_cons_zero]
  refine wpAnyH_take (i := 5) (oi := ?o2x5) (v := ?v2x5) ?hi2x5 (by kernel_rfl) ?hf2x5 ?hr2x5 (fun _ _ _ h => h) ?hy2x5 (by assumption) ?rest2x5
  case hi2x5 => (simp only [List.getElem?_toArray, List.getElem?_cons_succ, List.getElem?_cons_zero]; exact rfl)
  case hf2x5 => kernel_rfl
  case hr2x5 => kernel_rfl
  case hy2x5 => (refine Or.inl ⟨by rfl, ?_⟩; intro w hSw; (try dsimp only at hSw); go_simp; try with_reducible rfl)
  simp only [put_mk, List.set_cons_succ, List.set_cons_zero]
  refine wpAnyH_take (i := 6) (oi := ?o2x6) (v := ?v2x6) ?hi2x6 (by kernel_rfl) ?hf2x6 ?hr2x6 (fun _ _ _ h => h) ?hy2x6 (by assumption) ?rest2x6
  case hi2x6 => (simp only [List.getElem?_toArray, List.getElem?_cons_succ, List.getElem?_cons_zero]; exact rfl)
  case hf2x6 => kernel_rfl
  case hr2x6 => kernel_rfl
  case hy2x6 => (refine Or.inl ⟨by rfl, ?_⟩; intro w hSw; (try dsimp only at hSw); go_simp; try with_reducible rfl)
  simp only [put_mk, List.set_cons_succ, List.set_cons_zero]
  refine wpAnyH_take (i := 7) (oi := ?o2x7) (v := ?v2x7) ?hi2x7 (by kernel_rfl) ?hf2x7 ?hr2x7 (fun _ _ _ h => h) ?hy2x7 (by assumption) ?rest2x7
  case hi2x7 => (simp only [List.getElem?_toArray, List.getElem?_cons_succ, List.getElem?_cons_zero]; exact rfl)
  case hf2x7 => kernel_rfl
  case hr2x7 => kernel_rfl
  case hy2x7 => (refine Or.inl ⟨by rfl, ?_⟩; intro w hSw; (try dsimp only at hSw); go_simp; try with_reducible rfl)
  simp only [put_mk, List.set_cons_succ, List.set_cons_zero]
  refine wpAnyH_take (i := 9) (oi := ?o2x9) (v := ?v2x9) ?hi2x9 (by kernel_rfl) ?hf2x9 ?hr2x9 (fun _ _ _ h => h) ?hy2x9 (by assumption) ?rest2x9
  case hi2x9 => (simp only [List.getElem?_toArray, List.getElem?_cons_succ, List.getElem?_cons_zero]; exact rfl)
  case hf2x9 => kernel_rfl
  case hr2x9 => kernel_rfl
  case hy2x9 => (refine Or.inl ⟨by rfl, ?_⟩; intro w hSw; (try dsimp only at hSw); go_simp; try with_reducible rfl)
  simp only [put_mk, List.set_cons_succ, List.set_cons_zero]
  refine wpAnyH_ready (rs := [8]) (by kernel_rfl) (by simp) ?_
  refine AllReadyH.cons (o := ?o2x8) ?hi2x8 (fun K hK => ?_) AllReadyH.nil
  case hi2x8 => (simp only [List.getElem?_toArray, List.getElem?_cons_succ, List.getElem?_cons_zero]; exact rfl)
  go_simp
  go_at_call 113; refine (HD _).out.mono ?_; rintro e w5 ⟨rfl, hx5⟩
  refine hK.out _ _ ?_ (fun hHeld => ?_)
  · (first | (repeat (first | exact Ext.refl _ | assumption | refine Ext.setCell ?_ (by first | (simp; done) | (simp; omega)) _ | refine Ext.drewN ?_ _ | refine Ext.alloc ?_ _ | refine Ext.drew ?_ | refine Ext.trans ?_ (by assumption))))
  clear hK K
  refine wpAnyH_take (i := 10) (oi := ?o2x10) (v := ?v2x10) ?hi2x10 (by kernel_rfl) ?hf2x10 ?hr2x10 (fun _ _ _ h => h) ?hy2x10 (by assumption) ?rest2x10
  case hi2x10 => (simp only [List.getElem?_toArray, List.getElem?_cons_succ, List.getElem?_cons_zero]; exact rfl)
  case hf2x10 => kernel_rfl
  case hr2x10 => kernel_rfl
  case hy2x10 => (refine Or.inl ⟨by rfl, ?_⟩; intro w hSw; (try dsimp only at hSw); go_simp; try with_reducible rfl)
  simp only [put_mk, List.set_cons_succ, List.set_cons_zero]
  refine wpAnyH_take (i := 11) (oi := ?o2x11) (v := ?v2x11) ?hi2x11 (by kernel_rfl) ?hf2x11 ?hr2x11 (fun _ _ _ h => h) ?hy2x11 (by assumption) ?rest2x11
  case hi2x11 => (simp only [List.getElem?_toArray, List.getElem?_cons_succ, List.getElem?_cons_zero]; exact rfl)
  case hf2x11 => kernel_rfl
  case hr2x11 => kernel_rfl
  case hy2x11 => (refine Or.inl ⟨by rfl, ?_⟩; intro w hSw; (try dsimp only at hSw); go_simp; try with_reducible rfl)
  simp only [put_mk, List.set_cons_succ, List.set_cons_zero]
  refine wpAnyH_done (by kernel_rfl) ?_ _
  refine NoPanic.normal ?_
  go_wp2_with fail
  go_ret2
  exact ⟨rfl, (by repeat (first | exact Ext.refl _ | assumption | refine Ext.setCell ?_ (by first | (simp; done) | (simp; omega)) _ | refine Ext.drewN ?_ _ | refine Ext.alloc ?_ _ | refine Ext.drew ?_ | refine Ext.trans ?_ (by assumption)))⟩
set_option maxRecDepth 100000 in
set_option maxHeartbeats 6400000 in
theorem between_2 (ax ay bx by' : Int) (n : Nat) (w : World) (h1 : -16777216 ≤ ax ∧ ax ≤ 16777216) (h2 : -16777216 ≤ ay ∧ ay ≤ 16777216) (h3 : -16777216 ≤ bx ∧ bx ≤ 16777216) (h4 : -16777216 ≤ by' ∧ by' ≤ 16777216) (hn : 1 ≤ n) (hx : bx - ax = 0) (hy : by' - ay = (n : Int)) :
    Calls Try.prog 78 #[.agg #[.int .i64 ax, .int .i64 ay], .agg #[.int .i64 bx, .int .i64 by']] w fun e w' => e = .returned (.tuple #[.int .i64 2, .int .i64 n]) ∧ Ext w w' := by
  have hq := And.intro (And.intro h1 h2) (And.intro h3 h4)
  have hnb : n ≤ 33554432 := by omega
  clear hq
  have n0 : ¬ (n : Int) = 0 := by omega
  have nz : ¬ n = 0 := by omega
  have n1 : ¬ (-(n : Int)) = 0 := by omega
  have n2 : ¬ (n : Int) = -(n : Int) := by omega
  have n3 : ¬ (-(n : Int)) = (n : Int) := by omega
  have v1 := hidA (show wrap64 (bx - ax) = 0 by rw [hx]; exact IntWalk.wrap64_in _ ⟨by omega, by omega⟩)
  have v2 := hidA (show wrap64 (by' - ay) = (n : Int) by rw [hy]; exact IntWalk.wrap64_in _ ⟨by omega, by omega⟩)
  have v3 := hidA (show max4 0 0 (n : Int) (-(n : Int)) = (n : Int) by unfold max4; omega)
  have m1 := hidA (show wrap64 (-(n : Int)) = -(n : Int) from IntWalk.wrap64_in _ ⟨by omega, by omega⟩)
  have m3 := hidA (show wrap64 (n : Int) = (n : Int) from IntWalk.wrap64_in _ ⟨by omega, by omega⟩)
  have HD := fun (w : World) => hidA (direction_any 2 w (by omega))
  have d1 : stepX (2 : Nat) = 0 := by decide
  have d2 : stepY (2 : Nat) = 1 := by decide
  rw [d1, d2] at HD
  have t1 := hidA (show Int.tdiv (n : Int) (n : Int) = 1 from Int.tdiv_self (by omega))
  have t2 := hidA (show Int.tdiv (-(n : Int)) (n : Int) = -1 by rw [Int.neg_tdiv, t1.out])
  have t3 : Int.tdiv 0 (n : Int) = 0 := Int.zero_tdiv _
  have v1 := v1.out
  have v2 := v2.out
  have v3 := v3.out
  have m1 := m1.out
  have m3 := m3.out
  have t1 := t1.out
  have t2 := t2.out
  clear hx hy d1 d2
  go_enter Try.func78, Try.ntmps78
  go_upto_region 1 with fail
  have kA : Bk ((w.alloc (.cells #[.int .i64 ax, .int .i64 ay] 32)).alloc (.cells #[.int .i64 bx, .int .i64 by'] 32)) w.heap.size 32 #[.int .i64 ax, .int .i64 ay] := (Bk.new' rfl).alloc _
  have kB : Bk ((w.alloc (.cells #[.int .i64 ax, .int .i64 ay] 32)).alloc (.cells #[.int .i64 bx, .int .i64 by'] 32)) (w.heap.size + 1) 32 #[.int .i64 bx, .int .i64 by'] := Bk.new' (by simp)
  have hx0 : Ext w ((w.alloc (.cells #[.int .i64 ax, .int .i64 ay] 32)).alloc (.cells #[.int .i64 bx, .int .i64 by'] 32)) := ((Ext.refl w).alloc _).alloc _
  generalize (w.alloc (.cells #[.int .i64 ax, .int .i64 ay] 32)).alloc (.cells #[.int .i64 bx, .int .i64 by'] 32) = w0 at *
  have a0 := kA.cell 0
  have a1 := kA.cell 1
  have b0 := kB.cell 0
  have b1 := kB.cell 1
  clear kA kB h1 h2 h3 h4
  go_quiet (fail)
  have hx1 : Ext w (w0.drewN nq) := hx0.drewN nq
  generalize w0.drewN nq = w1 at *
  clear a0 a1 b0 b1 hx0
  go_upto_region 5 with fail
  refine wp_region_noPanic ?_
  refine wp_region_held_drew (S := fun w' => Ext w w') (by kernel_rfl) ?_ (fun hHeld => ?_)
  · (first | (repeat (first | exact Ext.refl _ | assumption | refine Ext.setCell ?_ (by first | (simp; done) | (simp; omega)) _ | refine Ext.drewN ?_ _ | refine Ext.alloc ?_ _ | refine Ext.drew ?_ | refine Ext.trans ?_ (by assumption))))
  refine wpAnyH_take (i := 0) (oi := ?o3x0) (v := ?v3x0) ?hi3x0 (by kernel_rfl) ?hf3x0 ?hr3x0 (fun _ _ _ h => h) ?hy3x0 (by assumption) ?rest3x0
  case hi3x0 => (simp only [List.getElem?_toArray, List.getElem?_cons_zero]; exact rfl)
  case hf3x0 => kernel_rfl
  case hr3x0 => kernel_rfl
  case hy3x0 => (refine Or.inl ⟨by rfl, ?_⟩; intro w hSw; (try dsimp only at hSw); go_simp; try with_reducible rfl)
  simp only [put_mk, List.set_cons_succ, List.set_cons_zero]
  refine wpAnyH_take (i := 1) (oi := ?o3x1) (v := ?v3x1) ?hi3x1 (by kernel_rfl) ?hf3x1 ?hr3x1 (fun _ _ _ h => h) ?hy3x1 (by assumption) ?rest3x1
  case hi3x1 => (simp only [List.getElem?_toArray, List.getElem?_cons_succ, List.getElem?_cons_zero]; exact rfl)
  case hf3x1 => kernel_rfl
  case hr3x1 => kernel_rfl
  case hy3x1 => (refine Or.inl ⟨by rfl, ?_⟩; intro w hSw; (try dsimp only at hSw); go_simp; try with_reducible rfl)
  simp only [put_mk, List.set_cons_succ, List.set_cons_zero]
  refine wpAnyH_take (i := 2) (oi := ?o3x2) (v := ?v3x2) ?hi3x2 (by kernel_rfl) ?hf3x2 ?hr3x2 (fun _ _ _ h => h) ?hy3x2 (by assumption) ?rest3x2
  case hi3x2 => (simp only [List.getElem?_toArray, List.getElem?_cons_succ, List.getElem?_cons_zero]; exact rfl)
  case hf3x2 => kernel_rfl
  case hr3x2 => kernel_rfl
  case hy3x2 => (refine Or.inl ⟨by rfl, ?_⟩; intro w hSw; (try dsimp only at hSw); go_simp; try with_reducible rfl)
  simp only [put_mk, List.set_cons_succ, List.set_cons_zero]
  refine wpAnyH_take (i := 3) (oi := ?o3x3) (v := ?v3x3) ?hi3x3 (by kernel_rfl) ?hf3x3 ?hr3x3 (fun _ _ _ h => h) ?hy3x3 (by assumption) ?rest3x3
  case hi3x3 => (simp only [List.getElem?_toArray, List.getElem?_cons_succ, List.getElem?_cons_zero]; exact rfl)
  case hf3x3 => kernel_rfl
  case hr3x3 => kernel_rfl
  case hy3x3 => (refine Or.inl ⟨by rfl, ?_⟩; intro w hSw; (try dsimp only at hSw); go_simp; try with_reducible rfl)
  simp only [put_mk, List.set_cons_succ, List.set_cons_zero]
  refine wpAnyH_take (i := 4) (oi := ?o3x4) (v := ?v3x4) ?hi3x4 (by kernel_rfl) ?hf3x4 ?hr3x4 (fun _ _ _ h => h) ?hy3x4 (by assumption) ?rest3x4
  case hi3x4 => (simp only [List.getElem?_toArray, List.getElem?_cons_succ, List.getElem?_cons_zero]; exact rfl)
  case hf3x4 => kernel_rfl
  case hr3x4 => kernel_rfl
  case hy3x4 => (refine Or.inl ⟨by rfl, ?_⟩; intro w hSw; (try dsimp only at hSw); go_simp; try with_reducible rfl)
  simp only [put_mk, List.set_cons_succ, List.set_cons_zero]
  refine wpAnyH_take (i := 5) (oi := ?o3x5) (v := ?v3x5) ?hi3x5 (by kernel_rfl) ?hf3x5 ?hr3x5 (fun _ _ _ h => h) ?hy3x5 (by assumption) ?rest3x5
  case hi3x5 => (simp only [List.getElem?_toArray, List.getElem?_cons_succ, List.getElem?_cons_zero]; exact rfl)
  case hf3x5 => kernel_rfl
  case hr3x5 => kernel_rfl
  case hy3x5 => (refine Or.inl ⟨by rfl, ?_⟩; intro w hSw; (try dsimp only at hSw); go_simp; try with_reducible rfl)
  simp only [put_mk, List.set_cons_succ, List.set_cons_zero]
  refine wpAnyH_take (i := 6) (oi := ?o3x6) (v := ?v3x6) ?hi3x6 (by kernel_rfl) ?hf3x6 ?hr3x6 (fun _ _ _ h => h) ?hy3x6 (by assumption) ?rest3x6
  case hi3x6 => (simp only [List.getElem?_toArray, List.getElem?_cons_succ, List.getElem?_cons_zero]; exact rfl)
  case hf3x6 => kernel_rfl
  case hr3x6 => kernel_rfl
  case hy3x6 => (refine Or.inl ⟨by rfl, ?_⟩; intro w hSw; (try dsimp only at hSw); go_simp; try with_reducible rfl)
  simp only [put_mk, List.set_cons_succ, List.set_cons_zero]
  refine wpAnyH_take (i := 7) (oi := ?o3x7) (v := ?v3x7) ?hi3x7 (by kernel_rfl) ?hf3x7 ?hr3x7 (fun _ _ _ h => h) ?hy3x7 (by assumption) ?rest3x7
  case hi3x7 => (simp only [List.getElem?_toArray, List.getElem?_cons_succ, List.getElem?_cons_zero]; exact rfl)
  case hf3x7 => kernel_rfl
  case hr3x7 => kernel_rfl
  case hy3x7 => (refine Or.inl ⟨by rfl, ?_⟩; intro w hSw; (try dsimp only at hSw); go_simp; try with_reducible rfl)
  simp only [put_mk, List.set_cons_succ, List.set_cons_zero]
  refine wpAnyH_take (i := 9) (oi := ?o3x9) (v := ?v3x9) ?hi3x9 (by kernel_rfl) ?hf3x9 ?hr3x9 (fun _ _ _ h => h) ?hy3x9 (by assumption) ?rest3x9
  case hi3x9 => (simp only [List.getElem?_toArray, List.getElem?_cons_succ, List.getElem?_cons_zero]; exact rfl)
  case hf3x9 => kernel_rfl
  case hr3x9 => kernel_rfl
  case hy3x9 => (refine Or.inl ⟨by rfl, ?_⟩; intro w hSw; (try dsimp only at hSw); go_simp; try with_reducible rfl)
  simp only [put_mk, List.set_cons_succ, List.set_cons_zero]
  refine wpAnyH_ready (rs := [8]) (by kernel_rfl) (by simp) ?_
  refine AllReadyH.cons (o := ?o3x8) ?hi3x8 (fun K hK => ?_) AllReadyH.nil
  case hi3x8 => (simp only [List.getElem?_toArray, List.getElem?_cons_succ, List.getElem?_cons_zero]; exact rfl)
  go_simp
  go_at_call 113; refine (HD _).out.mono ?_; rintro e w5 ⟨rfl, hx5⟩
  refine hK.out _ _ ?_ (fun hHeld => ?_)
  · (first | (repeat (first | exact Ext.refl _ | assumption | refine Ext.setCell ?_ (by first | (simp; done) | (simp; omega)) _ | refine Ext.drewN ?_ _ | refine Ext.alloc ?_ _ | refine Ext.drew ?_ | refine Ext.trans ?_ (by assumption))))
  clear hK K
  refine wpAnyH_take (i := 10) (oi := ?o3x10) (v := ?v3x10) ?hi3x10 (by kernel_rfl) ?hf3x10 ?hr3x10 (fun _ _ _ h => h) ?hy3x10 (by assumption) ?rest3x10
  case hi3x10 => (simp only [List.getElem?_toArray, List.getElem?_cons_succ, List.getElem?_cons_zero]; exact rfl)
  case hf3x10 => kernel_rfl
  case hr3x10 => kernel_rfl
  case hy3x10 => (refine Or.inl ⟨by rfl, ?_⟩; intro w hSw; (try dsimp only at hSw); go_simp; try with_reducible rfl)
  simp only [put_mk, List.set_cons_succ, List.set_cons_zero]
  refine wpAnyH_take (i := 11) (oi := ?o3x11) (v := ?v3x11) ?hi3x11 (by kernel_rfl) ?hf3x11 ?hr3x11 (fun _ _ _ h => h) ?hy3x11 (by assumption) ?rest3x11
  case hi3x11 => (simp only [List.getElem?_toArray, List.getElem?_cons_succ, List.getElem?_cons_zero]; exact rfl)
  case hf3x11 => kernel_rfl
  case hr3x11 => kernel_rfl
  case hy3x11 => (refine Or.inl ⟨by rfl, ?_⟩; intro w hSw; (try dsimp only at hSw); go_simp; try with_reducible rfl)
  simp only [put_mk, List.set_cons_succ, List.set_cons_zero]
  refine wpAnyH_done (by kernel_rfl) ?_ _
  refine NoPanic.normal ?_
  go_wp2_with fail
  go_ret2
  exact ⟨rfl, (by repeat (first | exact Ext.refl _ | assumption | refine Ext.setCell ?_ (by first | (simp; done) | (simp; omega)) _ | refine Ext.drewN ?_ _ | refine Ext.alloc ?_ _ | refine Ext.drew ?_ | refine Ext.trans ?_ (by assumption)))⟩
set_option maxRecDepth 100000 in
set_option maxHeartbeats 6400000 in
theorem between_3 (ax ay bx by' : Int) (n : Nat) (w : World) (h1 : -16777216 ≤ ax ∧ ax ≤ 16777216) (h2 : -16777216 ≤ ay ∧ ay ≤ 16777216) (h3 : -16777216 ≤ bx ∧ bx ≤ 16777216) (h4 : -16777216 ≤ by' ∧ by' ≤ 16777216) (hn : 1 ≤ n) (hx : bx - ax = (-(n : Int))) (hy : by' - ay = (n : Int)) :
    Calls Try.prog 78 #[.agg #[.int .i64 ax, .int .i64 ay], .agg #[.int .i64 bx, .int .i64 by']] w fun e w' => e = .returned (.tuple #[.int .i64 3, .int .i64 n]) ∧ Ext w w' := by
  have hq := And.intro (And.intro h1 h2) (And.intro h3 h4)
  have hnb : n ≤ 33554432 := by omega
  clear hq
  have n0 : ¬ (n : Int) = 0 := by omega
  have nz : ¬ n = 0 := by omega
  have n1 : ¬ (-(n : Int)) = 0 := by omega
  have n2 : ¬ (n : Int) = -(n : Int) := by omega
  have n3 : ¬ (-(n : Int)) = (n : Int) := by omega
  have v1 := hidA (show wrap64 (bx - ax) = (-(n : Int)) by rw [hx]; exact IntWalk.wrap64_in _ ⟨by omega, by omega⟩)
  have v2 := hidA (show wrap64 (by' - ay) = (n : Int) by rw [hy]; exact IntWalk.wrap64_in _ ⟨by omega, by omega⟩)
  have v3 := hidA (show max4 (-(n : Int)) (n : Int) (n : Int) (-(n : Int)) = (n : Int) by unfold max4; omega)
  have m1 := hidA (show wrap64 (-(n : Int)) = -(n : Int) from IntWalk.wrap64_in _ ⟨by omega, by omega⟩)
  have m3 := hidA (show wrap64 (n : Int) = (n : Int) from IntWalk.wrap64_in _ ⟨by omega, by omega⟩)
  have HD := fun (w : World) => hidA (direction_any 3 w (by omega))
  have d1 : stepX (3 : Nat) = -1 := by decide
  have d2 : stepY (3 : Nat) = 1 := by decide
  rw [d1, d2] at HD
  have t1 := hidA (show Int.tdiv (n : Int) (n : Int) = 1 from Int.tdiv_self (by omega))
  have t2 := hidA (show Int.tdiv (-(n : Int)) (n : Int) = -1 by rw [Int.neg_tdiv, t1.out])
  have t3 : Int.tdiv 0 (n : Int) = 0 := Int.zero_tdiv _
  have v1 := v1.out
  have v2 := v2.out
  have v3 := v3.out
  have m1 := m1.out
  have m3 := m3.out
  have t1 := t1.out
  have t2 := t2.out
  clear hx hy d1 d2
  go_enter Try.func78, Try.ntmps78
  go_upto_region 1 with fail
  have kA : Bk ((w.alloc (.cells #[.int .i64 ax, .int .i64 ay] 32)).alloc (.cells #[.int .i64 bx, .int .i64 by'] 32)) w.heap.size 32 #[.int .i64 ax, .int .i64 ay] := (Bk.new' rfl).alloc _
  have kB : Bk ((w.alloc (.cells #[.int .i64 ax, .int .i64 ay] 32)).alloc (.cells #[.int .i64 bx, .int .i64 by'] 32)) (w.heap.size + 1) 32 #[.int .i64 bx, .int .i64 by'] := Bk.new' (by simp)
  have hx0 : Ext w ((w.alloc (.cells #[.int .i64 ax, .int .i64 ay] 32)).alloc (.cells #[.int .i64 bx, .int .i64 by'] 32)) := ((Ext.refl w).alloc _).alloc _
  generalize (w.alloc (.cells #[.int .i64 ax, .int .i64 ay] 32)).alloc (.cells #[.int .i64 bx, .int .i64 by'] 32) = w0 at *
  have a0 := kA.cell 0
  have a1 := kA.cell 1
  have b0 := kB.cell 0
  have b1 := kB.cell 1
  clear kA kB h1 h2 h3 h4
  go_quiet (fail)
  have hx1 : Ext w (w0.drewN nq) := hx0.drewN nq
  generalize w0.drewN nq = w1 at *
  clear a0 a1 b0 b1 hx0
  go_upto_region 5 with fail
  refine wp_region_noPanic ?_
  refine wp_region_held_drew (S := fun w' => Ext w w') (by kernel_rfl) ?_ (fun hHeld => ?_)
  · (first | (repeat (first | exact Ext.refl _ | assumption | refine Ext.setCell ?_ (by first | (simp; done) | (simp; omega)) _ | refine Ext.drewN ?_ _ | refine Ext.alloc ?_ _ | refine Ext.drew ?_ | refine Ext.trans ?_ (by assumption))))
  refine wpAnyH_take (i := 0) (oi := ?o4x0) (v := ?v4x0) ?hi4x0 (by kernel_rfl) ?hf4x0 ?hr4x0 (fun _ _ _ h => h) ?hy4x0 (by assumption) ?rest4x0
  case hi4x0 => (simp only [List.getElem?_toArray, List.getElem?_cons_zero]; exact rfl)
  case hf4x0 => kernel_rfl
  case hr4x0 => kernel_rfl
  case hy4x0 => (refine Or.inl ⟨by rfl, ?_⟩; intro w hSw; (try dsimp only at hSw); go_simp; try with_reducible rfl)
  simp only [put_mk, List.set_cons_succ, List.set_cons_zero]
  refine wpAnyH_take (i := 1) (oi := ?o4x1) (v := ?v4x1) ?hi4x1 (by kernel_rfl) ?hf4x1 ?hr4x1 (fun _ _ _ h => h) ?hy4x1 (by assumption) ?rest4x1
  case hi4x1 => (simp only [List.getElem?_toArray, List.getElem?_cons_succ, List.getElem?_cons_zero]; exact rfl)
  case hf4x1 => kernel_rfl
  case hr4x1 => kernel_rfl
  case hy4x1 => (refine Or.inl ⟨by rfl, ?_⟩; intro w hSw; (try dsimp only at hSw); go_simp; try with_reducible rfl)
  simp only [put_mk, List.set_cons_succ, List.set_cons_zero]
  refine wpAnyH_take (i := 2) (oi := ?o4x2) (v := ?v4x2) ?hi4x2 (by kernel_rfl) ?hf4x2 ?hr4x2 (fun _ _ _ h => h) ?hy4x2 (by assumption) ?rest4x2
  case hi4x2 => (simp only [List.getElem?_toArray, List.getElem?_cons_succ, List.getElem?_cons_zero]; exact rfl)
  case hf4x2 => kernel_rfl
  case hr4x2 => kernel_rfl
  case hy4x2 => (refine Or.inl ⟨by rfl, ?_⟩; intro w hSw; (try dsimp only at hSw); go_simp; try with_reducible rfl)
  simp only [put_mk, List.set_cons_succ, List.set_cons_zero]
  refine wpAnyH_take (i := 3) (oi := ?o4x3) (v := ?v4x3) ?hi4x3 (by kernel_rfl) ?hf4x3 ?hr4x3 (fun _ _ _ h => h) ?hy4x3 (by assumption) ?rest4x3
  case hi4x3 => (simp only [List.getElem?_toArray, List.getElem?_cons_succ, List.getElem?_cons_zero]; exact rfl)
  case hf4x3 => kernel_rfl
  case hr4x3 => kernel_rfl
  case hy4x3 => (refine Or.inl ⟨by rfl, ?_⟩; intro w hSw; (try dsimp only at hSw); go_simp; try with_reducible rfl)
  simp only [put_mk, List.set_cons_succ, List.set_cons_zero]
  refine wpAnyH_take (i := 4) (oi := ?o4x4) (v := ?v4x4) ?hi4x4 (by kernel_rfl) ?hf4x4 ?hr4x4 (fun _ _ _ h => h) ?hy4x4 (by assumption) ?rest4x4
  case hi4x4 => (simp only [List.getElem?_toArray, List.getElem?_cons_succ, List.getElem?_cons_zero]; exact rfl)
  case hf4x4 => kernel_rfl
  case hr4x4 => kernel_rfl
  case hy4x4 => (refine Or.inl ⟨by rfl, ?_⟩; intro w hSw; (try dsimp only at hSw); go_simp; try with_reducible rfl)
  simp only [put_mk, List.set_cons_succ, List.set_cons_zero]
  refine wpAnyH_take (i := 5) (oi := ?o4x5) (v := ?v4x5) ?hi4x5 (by kernel_rfl) ?hf4x5 ?hr4x5 (fun _ _ _ h => h) ?hy4x5 (by assumption) ?rest4x5
  case hi4x5 => (simp only [List.getElem?_toArray, List.getElem?_cons_succ, List.getElem?_cons_zero]; exact rfl)
  case hf4x5 => kernel_rfl
  case hr4x5 => kernel_rfl
  case hy4x5 => (refine Or.inl ⟨by rfl, ?_⟩; intro w hSw; (try dsimp only at hSw); go_simp; try with_reducible rfl)
  simp only [put_mk, List.set_cons_succ, List.set_cons_zero]
  refine wpAnyH_take (i := 6) (oi := ?o4x6) (v := ?v4x6) ?hi4x6 (by kernel_rfl) ?hf4x6 ?hr4x6 (fun _ _ _ h => h) ?hy4x6 (by assumption) ?rest4x6
  case hi4x6 => (simp only [List.getElem?_toArray, List.getElem?_cons_succ, List.getElem?_cons_zero]; exact rfl)
  case hf4x6 => kernel_rfl
  case hr4x6 => kernel_rfl
  case hy4x6 => (refine Or.inl ⟨by rfl, ?_⟩; intro w hSw; (try dsimp only at hSw); go_simp; try with_reducible rfl)
  simp only [put_mk, List.set_cons_succ, List.set_cons_zero]
  refine wpAnyH_take (i := 7) (oi := ?o4x7) (v := ?v4x7) ?hi4x7 (by kernel_rfl) ?hf4x7 ?hr4x7 (fun _ _ _ h => h) ?hy4x7 (by assumption) ?rest4x7
  case hi4x7 => (simp only [List.getElem?_toArray, List.getElem?_cons_succ, List.getElem?_cons_zero]; exact rfl)
  case hf4x7 => kernel_rfl
  case hr4x7 => kernel_rfl
  case hy4x7 => (refine Or.inl ⟨by rfl, ?_⟩; intro w hSw; (try dsimp only at hSw); go_simp; try with_reducible rfl)
  simp only [put_mk, List.set_cons_succ, List.set_cons_zero]
  refine wpAnyH_take (i := 9) (oi := ?o4x9) (v := ?v4x9) ?hi4x9 (by kernel_rfl) ?hf4x9 ?hr4x9 (fun _ _ _ h => h) ?hy4x9 (by assumption) ?rest4x9
  case hi4x9 => (simp only [List.getElem?_toArray, List.getElem?_cons_succ, List.getElem?_cons_zero]; exact rfl)
  case hf4x9 => kernel_rfl
  case hr4x9 => kernel_rfl
  case hy4x9 => (refine Or.inl ⟨by rfl, ?_⟩; intro w hSw; (try dsimp only at hSw); go_simp; try with_reducible rfl)
  simp only [put_mk, List.set_cons_succ, List.set_cons_zero]
  refine wpAnyH_ready (rs := [8]) (by kernel_rfl) (by simp) ?_
  refine AllReadyH.cons (o := ?o4x8) ?hi4x8 (fun K hK => ?_) AllReadyH.nil
  case hi4x8 => (simp only [List.getElem?_toArray, List.getElem?_cons_succ, List.getElem?_cons_zero]; exact rfl)
  go_simp
  go_at_call 113; refine (HD _).out.mono ?_; rintro e w5 ⟨rfl, hx5⟩
  refine hK.out _ _ ?_ (fun hHeld => ?_)
  · (first | (repeat (first | exact Ext.refl _ | assumption | refine Ext.setCell ?_ (by first | (simp; done) | (simp; omega)) _ | refine Ext.drewN ?_ _ | refine Ext.alloc ?_ _ | refine Ext.drew ?_ | refine Ext.trans ?_ (by assumption))))
  clear hK K
  refine wpAnyH_take (i := 10) (oi := ?o4x10) (v := ?v4x10) ?hi4x10 (by kernel_rfl) ?hf4x10 ?hr4x10 (fun _ _ _ h => h) ?hy4x10 (by assumption) ?rest4x10
  case hi4x10 => (simp only [List.getElem?_toArray, List.getElem?_cons_succ, List.getElem?_cons_zero]; exact rfl)
  case hf4x10 => kernel_rfl
  case hr4x10 => kernel_rfl
  case hy4x10 => (refine Or.inl ⟨by rfl, ?_⟩; intro w hSw; (try dsimp only at hSw); go_simp; try with_reducible rfl)
  simp only [put_mk, List.set_cons_succ, List.set_cons_zero]
  refine wpAnyH_take (i := 11) (oi := ?o4x11) (v := ?v4x11) ?hi4x11 (by kernel_rfl) ?hf4x11 ?hr4x11 (fun _ _ _ h => h) ?hy4x11 (by assumption) ?rest4x11
  case hi4x11 => (simp only [List.getElem?_toArray, List.getElem?_cons_succ, List.getElem?_cons_zero]; exact rfl)
  case hf4x11 => kernel_rfl
  case hr4x11 => kernel_rfl
  case hy4x11 => (refine Or.inl ⟨by rfl, ?_⟩; intro w hSw; (try dsimp only at hSw); go_simp; try with_reducible rfl)
  simp only [put_mk, List.set_cons_succ, List.set_cons_zero]
  refine wpAnyH_done (by kernel_rfl) ?_ _
  refine NoPanic.normal ?_
  go_wp2_with fail
  go_ret2
  exact ⟨rfl, (by repeat (first | exact Ext.refl _ | assumption | refine Ext.setCell ?_ (by first | (simp; done) | (simp; omega)) _ | refine Ext.drewN ?_ _ | refine Ext.alloc ?_ _ | refine Ext.drew ?_ | refine Ext.trans ?_ (by assumption)))⟩
set_option maxRecDepth 100000 in
set_option maxHeartbeats 6400000 in
theorem between_4 (ax ay bx by' : Int) (n : Nat) (w : World) (h1 : -16777216 ≤ ax ∧ ax ≤ 16777216) (h2 : -16777216 ≤ ay ∧ ay ≤ 16777216) (h3 : -16777216 ≤ bx ∧ bx ≤ 16777216) (h4 : -16777216 ≤ by' ∧ by' ≤ 16777216) (hn : 1 ≤ n) (hx : bx - ax = (-(n : Int))) (hy : by' - ay = 0) :
    Calls Try.prog 78 #[.agg #[.int .i64 ax, .int .i64 ay], .agg #[.int .i64 bx, .int .i64 by']] w fun e w' => e = .returned (.tuple #[.int .i64 4, .int .i64 n]) ∧ Ext w w' := by
  have hq := And.intro (And.intro h1 h2) (And.intro h3 h4)
  have hnb : n ≤ 33554432 := by omega
  clear hq
  have n0 : ¬ (n : Int) = 0 := by omega
  have nz : ¬ n = 0 := by omega
  have n1 : ¬ (-(n : Int)) = 0 := by omega
  have n2 : ¬ (n : Int) = -(n : Int) := by omega
  have n3 : ¬ (-(n : Int)) = (n : Int) := by omega
  have v1 := hidA (show wrap64 (bx - ax) = (-(n : Int)) by rw [hx]; exact IntWalk.wrap64_in _ ⟨by omega, by omega⟩)
  have v2 := hidA (show wrap64 (by' - ay) = 0 by rw [hy]; exact IntWalk.wrap64_in _ ⟨by omega, by omega⟩)
  have v3 := hidA (show max4 (-(n : Int)) (n : Int) 0 0 = (n : Int) by unfold max4; omega)
  have m1 := hidA (show wrap64 (-(n : Int)) = -(n : Int) from IntWalk.wrap64_in _ ⟨by omega, by omega⟩)
  have m3 := hidA (show wrap64 (n : Int) = (n : Int) from IntWalk.wrap64_in _ ⟨by omega, by omega⟩)
  have HD := fun (w : World) => hidA (direction_any 4 w (by omega))
  have d1 : stepX (4 : Nat) = -1 := by decide
  have d2 : stepY (4 : Nat) = 0 := by decide
  rw [d1, d2] at HD
  have t1 := hidA (show Int.tdiv (n : Int) (n : Int) = 1 from Int.tdiv_self (by omega))
  have t2 := hidA (show Int.tdiv (-(n : Int)) (n : Int) = -1 by rw [Int.neg_tdiv, t1.out])
  have t3 : Int.tdiv 0 (n : Int) = 0 := Int.zero_tdiv _
  have v1 := v1.out
  have v2 := v2.out
  have v3 := v3.out
  have m1 := m1.out
  have m3 := m3.out
  have t1 := t1.out
  have t2 := t2.out
  clear hx hy d1 d2
  go_enter Try.func78, Try.ntmps78
  go_upto_region 1 with fail
  have kA : Bk ((w.alloc (.cells #[.int .i64 ax, .int .i64 ay] 32)).alloc (.cells #[.int .i64 bx, .int .i64 by'] 32)) w.heap.size 32 #[.int .i64 ax, .int .i64 ay] := (Bk.new' rfl).alloc _
  have kB : Bk ((w.alloc (.cells #[.int .i64 ax, .int .i64 ay] 32)).alloc (.cells #[.int .i64 bx, .int .i64 by'] 32)) (w.heap.size + 1) 32 #[.int .i64 bx, .int .i64 by'] := Bk.new' (by simp)
  have hx0 : Ext w ((w.alloc (.cells #[.int .i64 ax, .int .i64 ay] 32)).alloc (.cells #[.int .i64 bx, .int .i64 by'] 32)) := ((Ext.refl w).alloc _).alloc _
  generalize (w.alloc (.cells #[.int .i64 ax, .int .i64 ay] 32)).alloc (.cells #[.int .i64 bx, .int .i64 by'] 32) = w0 at *
  have a0 := kA.cell 0
  have a1 := kA.cell 1
  have b0 := kB.cell 0
  have b1 := kB.cell 1
  clear kA kB h1 h2 h3 h4
  go_quiet (fail)
  have hx1 : Ext w (w0.drewN nq) := hx0.drewN nq
  generalize w0.drewN nq = w1 at *
  clear a0 a1 b0 b1 hx0
  go_upto_region 5 with fail
  refine wp_region_noPanic ?_
  refine wp_region_held_drew (S := fun w' => Ext w w') (by kernel_rfl) ?_ (fun hHeld => ?_)
  · (first | (repeat (first | exact Ext.refl _ | assumption | refine Ext.setCell ?_ (by first | (simp; done) | (simp; omega)) _ | refine Ext.drewN ?_ _ | refine Ext.alloc ?_ _ | refine Ext.drew ?_ | refine Ext.trans ?_ (by assumption))))
  refine wpAnyH_take (i := 0) (oi := ?o5x0) (v := ?v5x0) ?hi5x0 (by kernel_rfl) ?hf5x0 ?hr5x0 (fun _ _ _ h => h) ?hy5x0 (by assumption) ?rest5x0
  case hi5x0 => (simp only [List.getElem?_toArray, List.getElem?_cons_zero]; exact rfl)
  case hf5x0 => kernel_rfl
  case hr5x0 => kernel_rfl
  case hy5x0 => (refine Or.inl ⟨by rfl, ?_⟩; intro w hSw; (try dsimp only at hSw); go_simp; try with_reducible rfl)
  simp only [put_mk, List.set_cons_succ, List.set_cons_zero]
  refine wpAnyH_take (i := 1) (oi := ?o5x1) (v := ?v5x1) ?hi5x1 (by kernel_rfl) ?hf5x1 ?hr5x1 (fun _ _ _ h => h) ?hy5x1 (by assumption) ?rest5x1
  case hi5x1 => (simp only [List.getElem?_toArray, List.getElem?_cons_succ, List.getElem?_cons_zero]; exact rfl)
  case hf5x1 => kernel_rfl
  case hr5x1 => kernel_rfl
  case hy5x1 => (refine Or.inl ⟨by rfl, ?_⟩; intro w hSw; (try dsimp only at hSw); go_simp; try with_reducible rfl)
  simp only [put_mk, List.set_cons_succ, List.set_cons_zero]
  refine wpAnyH_take (i := 2) (oi := ?o5x2) (v := ?v5x2) ?hi5x2 (by kernel_rfl) ?hf5x2 ?hr5x2 (fun _ _ _ h => h) ?hy5x2 (by assumption) ?rest5x2
  case hi5x2 => (simp only [List.getElem?_toArray, List.getElem?_cons_succ, List.getElem?_cons_zero]; exact rfl)
  case hf5x2 => kernel_rfl
  case hr5x2 => kernel_rfl
  case hy5x2 => (refine Or.inl ⟨by rfl, ?_⟩; intro w hSw; (try dsimp only at hSw); go_simp; try with_reducible rfl)
  simp only [put_mk, List.set_cons_succ, List.set_cons_zero]
  refine wpAnyH_take (i := 3) (oi := ?o5x3) (v := ?v5x3) ?hi5x3 (by kernel_rfl) ?hf5x3 ?hr5x3 (fun _ _ _ h => h) ?hy5x3 (by assumption) ?rest5x3
  case hi5x3 => (simp only [List.getElem?_toArray, List.getElem?_cons_succ, List.getElem?_cons_zero]; exact rfl)
  case hf5x3 => kernel_rfl
  case hr5x3 => kernel_rfl
  case hy5x3 => (refine Or.inl ⟨by rfl, ?_⟩; intro w hSw; (try dsimp only at hSw); go_simp; try with_reducible rfl)
  simp only [put_mk, List.set_cons_succ, List.set_cons_zero]
  refine wpAnyH_take (i := 4) (oi := ?o5x4) (v := ?v5x4) ?hi5x4 (by kernel_rfl) ?hf5x4 ?hr5x4 (fun _ _ _ h => h) ?hy5x4 (by assumption) ?rest5x4
  case hi5x4 => (simp only [List.getElem?_toArray, List.getElem?_cons_succ, List.getElem?_cons_zero]; exact rfl)
  case hf5x4 => kernel_rfl
  case hr5x4 => kernel_rfl
  case hy5x4 => (refine Or.inl ⟨by rfl, ?_⟩; intro w hSw; (try dsimp only at hSw); go_simp; try with_reducible rfl)
  simp only [put_mk, List.set_cons_succ, List.set_cons_zero]
  refine wpAnyH_take (i := 5) (oi := ?o5x5) (v := ?v5x5) ?hi5x5 (by kernel_rfl) ?hf5x5 ?hr5x5 (fun _ _ _ h => h) ?hy5x5 (by assumption) ?rest5x5
  case hi5x5 => (simp only [List.getElem?_toArray, List.getElem?_cons_succ, List.getElem?_cons_zero]; exact rfl)
  case hf5x5 => kernel_rfl
  case hr5x5 => kernel_rfl
  case hy5x5 => (refine Or.inl ⟨by rfl, ?_⟩; intro w hSw; (try dsimp only at hSw); go_simp; try with_reducible rfl)
  simp only [put_mk, List.set_cons_succ, List.set_cons_zero]
  refine wpAnyH_take (i := 6) (oi := ?o5x6) (v := ?v5x6) ?hi5x6 (by kernel_rfl) ?hf5x6 ?hr5x6 (fun _ _ _ h => h) ?hy5x6 (by assumption) ?rest5x6
  case hi5x6 => (simp only [List.getElem?_toArray, List.getElem?_cons_succ, List.getElem?_cons_zero]; exact rfl)
  case hf5x6 => kernel_rfl
  case hr5x6 => kernel_rfl
  case hy5x6 => (refine Or.inl ⟨by rfl, ?_⟩; intro w hSw; (try dsimp only at hSw); go_simp; try with_reducible rfl)
  simp only [put_mk, List.set_cons_succ, List.set_cons_zero]
  refine wpAnyH_take (i := 7) (oi := ?o5x7) (v := ?v5x7) ?hi5x7 (by kernel_rfl) ?hf5x7 ?hr5x7 (fun _ _ _ h => h) ?hy5x7 (by assumption) ?rest5x7
  case hi5x7 => (simp only [List.getElem?_toArray, List.getElem?_cons_succ, List.getElem?_cons_zero]; exact rfl)
  case hf5x7 => kernel_rfl
  case hr5x7 => kernel_rfl
  case hy5x7 => (refine Or.inl ⟨by rfl, ?_⟩; intro w hSw; (try dsimp only at hSw); go_simp; try with_reducible rfl)
  simp only [put_mk, List.set_cons_succ, List.set_cons_zero]
  refine wpAnyH_take (i := 9) (oi := ?o5x9) (v := ?v5x9) ?hi5x9 (by kernel_rfl) ?hf5x9 ?hr5x9 (fun _ _ _ h => h) ?hy5x9 (by assumption) ?rest5x9
  case hi5x9 => (simp only [List.getElem?_toArray, List.getElem?_cons_succ, List.getElem?_cons_zero]; exact rfl)
  case hf5x9 => kernel_rfl
  case hr5x9 => kernel_rfl
  case hy5x9 => (refine Or.inl ⟨by rfl, ?_⟩; intro w hSw; (try dsimp only at hSw); go_simp; try with_reducible rfl)
  simp only [put_mk, List.set_cons_succ, List.set_cons_zero]
  refine wpAnyH_ready (rs := [8]) (by kernel_rfl) (by simp) ?_
  refine AllReadyH.cons (o := ?o5x8) ?hi5x8 (fun K hK => ?_) AllReadyH.nil
  case hi5x8 => (simp only [List.getElem?_toArray, List.getElem?_cons_succ, List.getElem?_cons_zero]; exact rfl)
  go_simp
  go_at_call 113; refine (HD _).out.mono ?_; rintro e w5 ⟨rfl, hx5⟩
  refine hK.out _ _ ?_ (fun hHeld => ?_)
  · (first | (repeat (first | exact Ext.refl _ | assumption | refine Ext.setCell ?_ (by first | (simp; done) | (simp; omega)) _ | refine Ext.drewN ?_ _ | refine Ext.alloc ?_ _ | refine Ext.drew ?_ | refine Ext.trans ?_ (by assumption))))
  clear hK K
  refine wpAnyH_take (i := 10) (oi := ?o5x10) (v := ?v5x10) ?hi5x10 (by kernel_rfl) ?hf5x10 ?hr5x10 (fun _ _ _ h => h) ?hy5x10 (by assumption) ?rest5x10
  case hi5x10 => (simp only [List.getElem?_toArray, List.getElem?_cons_succ, List.getElem?_cons_zero]; exact rfl)
  case hf5x10 => kernel_rfl
  case hr5x10 => kernel_rfl
  case hy5x10 => (refine Or.inl ⟨by rfl, ?_⟩; intro w hSw; (try dsimp only at hSw); go_simp; try with_reducible rfl)
  simp only [put_mk, List.set_cons_succ, List.set_cons_zero]
  refine wpAnyH_take (i := 11) (oi := ?o5x11) (v := ?v5x11) ?hi5x11 (by kernel_rfl) ?hf5x11 ?hr5x11 (fun _ _ _ h => h) ?hy5x11 (by assumption) ?rest5x11
  case hi5x11 => (simp only [List.getElem?_toArray, List.getElem?_cons_succ, List.getElem?_cons_zero]; exact rfl)
  case hf5x11 => kernel_rfl
  case hr5x11 => kernel_rfl
  case hy5x11 => (refine Or.inl ⟨by rfl, ?_⟩; intro w hSw; (try dsimp only at hSw); go_simp; try with_reducible rfl)
  simp only [put_mk, List.set_cons_succ, List.set_cons_zero]
  refine wpAnyH_done (by kernel_rfl) ?_ _
  refine NoPanic.normal ?_
  go_wp2_with fail
  go_ret2
  exact ⟨rfl, (by repeat (first | exact Ext.refl _ | assumption | refine Ext.setCell ?_ (by first | (simp; done) | (simp; omega)) _ | refine Ext.drewN ?_ _ | refine Ext.alloc ?_ _ | refine Ext.drew ?_ | refine Ext.trans ?_ (by assumption)))⟩
set_option maxRecDepth 100000 in
set_option maxHeartbeats 6400000 in
theorem between_5 (ax ay bx by' : Int) (n : Nat) (w : World) (h1 : -16777216 ≤ ax ∧ ax ≤ 16777216) (h2 : -16777216 ≤ ay ∧ ay ≤ 16777216) (h3 : -16777216 ≤ bx ∧ bx ≤ 16777216) (h4 : -16777216 ≤ by' ∧ by' ≤ 16777216) (hn : 1 ≤ n) (hx : bx - ax = (-(n : Int))) (hy : by' - ay = (-(n : Int))) :
    Calls Try.prog 78 #[.agg #[.int .i64 ax, .int .i64 ay], .agg #[.int .i64 bx, .int .i64 by']] w fun e w' => e = .returned (.tuple #[.int .i64 5, .int .i64 n]) ∧ Ext w w' := by
  have hq := And.intro (And.intro h1 h2) (And.intro h3 h4)
  have hnb : n ≤ 33554432 := by omega
  clear hq
  have n0 : ¬ (n : Int) = 0 := by omega
  have nz : ¬ n = 0 := by omega
  have n1 : ¬ (-(n : Int)) = 0 := by omega
  have n2 : ¬ (n : Int) = -(n : Int) := by omega
  have n3 : ¬ (-(n : Int)) = (n : Int) := by omega
  have v1 := hidA (show wrap64 (bx - ax) = (-(n : Int)) by rw [hx]; exact IntWalk.wrap64_in _ ⟨by omega, by omega⟩)
  have v2 := hidA (show wrap64 (by' - ay) = (-(n : Int)) by rw [hy]; exact IntWalk.wrap64_in _ ⟨by omega, by omega⟩)
  have v3 := hidA (show max4 (-(n : Int)) (n : Int) (-(n : Int)) (n : Int) = (n : Int) by unfold max4; omega)
  have m1 := hidA (show wrap64 (-(n : Int)) = -(n : Int) from IntWalk.wrap64_in _ ⟨by omega, by omega⟩)
  have m3 := hidA (show wrap64 (n : Int) = (n : Int) from IntWalk.wrap64_in _ ⟨by omega, by omega⟩)
  have HD := fun (w : World) => hidA (direction_any 5 w (by omega))
  have d1 : stepX (5 : Nat) = -1 := by decide
  have d2 : stepY (5 : Nat) = -1 := by decide
  rw [d1, d2] at HD
  have t1 := hidA (show Int.tdiv (n : Int) (n : Int) = 1 from Int.tdiv_self (by omega))
  have t2 := hidA (show Int.tdiv (-(n : Int)) (n : Int) = -1 by rw [Int.neg_tdiv, t1.out])
  have t3 : Int.tdiv 0 (n : Int) = 0 := Int.zero_tdiv _
  have v1 := v1.out
  have v2 := v2.out
  have v3 := v3.out
  have m1 := m1.out
  have m3 := m3.out
  have t1 := t1.out
  have t2 := t2.out
  clear hx hy d1 d2
  go_enter Try.func78, Try.ntmps78
  go_upto_region 1 with fail
  have kA : Bk ((w.alloc (.cells #[.int .i64 ax, .int .i64 ay] 32)).alloc (.cells #[.int .i64 bx, .int .i64 by'] 32)) w.heap.size 32 #[.int .i64 ax, .int .i64 ay] := (Bk.new' rfl).alloc _
  have kB : Bk ((w.alloc (.cells #[.int .i64 ax, .int .i64 ay] 32)).alloc (.cells #[.int .i64 bx, .int .i64 by'] 32)) (w.heap.size + 1) 32 #[.int .i64 bx, .int .i64 by'] := Bk.new' (by simp)
  have hx0 : Ext w ((w.alloc (.cells #[.int .i64 ax, .int .i64 ay] 32)).alloc (.cells #[.int .i64 bx, .int .i64 by'] 32)) := ((Ext.refl w).alloc _).alloc _
  generalize (w.alloc (.cells #[.int .i64 ax, .int .i64 ay] 32)).alloc (.cells #[.int .i64 bx, .int .i64 by'] 32) = w0 at *
  have a0 := kA.cell 0
  have a1 := kA.cell 1
  have b0 := kB.cell 0
  have b1 := kB.cell 1
  clear kA kB h1 h2 h3 h4
  go_quiet (fail)
  have hx1 : Ext w (w0.drewN nq) := hx0.drewN nq
  generalize w0.drewN nq = w1 at *
  clear a0 a1 b0 b1 hx0
  go_upto_region 5 with fail
  refine wp_region_noPanic ?_
  refine wp_region_held_drew (S := fun w' => Ext w w') (by kernel_rfl) ?_ (fun hHeld => ?_)
  · (first | (repeat (first | exact Ext.refl _ | assumption | refine Ext.setCell ?_ (by first | (simp; done) | (simp; omega)) _ | refine Ext.drewN ?_ _ | refine Ext.alloc ?_ _ | refine Ext.drew ?_ | refine Ext.trans ?_ (by assumption))))
  refine wpAnyH_take (i := 0) (oi := ?o6x0) (v := ?v6x0) ?hi6x0 (by kernel_rfl) ?hf6x0 ?hr6x0 (fun _ _ _ h => h) ?hy6x0 (by assumption) ?rest6x0
  case hi6x0 => (simp only [List.getElem?_toArray, List.getElem?_cons_zero]; exact rfl)
  case hf6x0 => kernel_rfl
  case hr6x0 => kernel_rfl
  case hy6x0 => (refine Or.inl ⟨by rfl, ?_⟩; intro w hSw; (try dsimp only at hSw); go_simp; try with_reducible rfl)
  simp only [put_mk, List.set_cons_succ, List.set_cons_zero]
  refine wpAnyH_take (i := 1) (oi := ?o6x1) (v := ?v6x1) ?hi6x1 (by kernel_rfl) ?hf6x1 ?hr6x1 (fun _ _ _ h => h) ?hy6x1 (by assumption) ?rest6x1
  case hi6x1 => (simp only [List.getElem?_toArray, List.getElem?_cons_succ, List.getElem?_cons_zero]; exact rfl)
  case hf6x1 => kernel_rfl
  case hr6x1 => kernel_rfl
  case hy6x1 => (refine Or.inl ⟨by rfl, ?_⟩; intro w hSw; (try dsimp only at hSw); go_simp; try with_reducible rfl)
  simp only [put_mk, List.set_cons_succ, List.set_cons_zero]
  refine wpAnyH_take (i := 2) (oi := ?o6x2) (v := ?v6x2) ?hi6x2 (by kernel_rfl) ?hf6x2 ?hr6x2 (fun _ _ _ h => h) ?hy6x2 (by assumption) ?rest6x2
  case hi6x2 => (simp only [List.getElem?_toArray, List.getElem?_cons_succ, List.getElem?_cons_zero]; exact rfl)
  case hf6x2 => kernel_rfl
  case hr6x2 => kernel_rfl
  case hy6x2 => (refine Or.inl ⟨by rfl, ?_⟩; intro w hSw; (try dsimp only at hSw); go_simp; try with_reducible rfl)
  simp only [put_mk, List.set_cons_succ, List.set_cons_zero]
  refine wpAnyH_take (i := 3) (oi := ?o6x3) (v := ?v6x3) ?hi6x3 (by kernel_rfl) ?hf6x3 ?hr6x3 (fun _ _ _ h => h) ?hy6x3 (by assumption) ?rest6x3
  case hi6x3 => (simp only [List.getElem?_toArray, List.getElem?_cons_succ, List.getElem?_cons_zero]; exact rfl)
  case hf6x3 => kernel_rfl
  case hr6x3 => kernel_rfl
  case hy6x3 => (refine Or.inl ⟨by rfl, ?_⟩; intro w hSw; (try dsimp only at hSw); go_simp; try with_reducible rfl)
  simp only [put_mk, List.set_cons_succ, List.set_cons_zero]
  refine wpAnyH_take (i := 4) (oi := ?o6x4) (v := ?v6x4) ?hi6x4 (by kernel_rfl) ?hf6x4 ?hr6x4 (fun _ _ _ h => h) ?hy6x4 (by assumption) ?rest6x4
  case hi6x4 => (simp only [List.getElem?_toArray, List.getElem?_cons_succ, List.getElem?_cons_zero]; exact rfl)
  case hf6x4 => kernel_rfl
  case hr6x4 => kernel_rfl
  case hy6x4 => (refine Or.inl ⟨by rfl, ?_⟩; intro w hSw; (try dsimp only at hSw); go_simp; try with_reducible rfl)
  simp only [put_mk, List.set_cons_succ, List.set_cons_zero]
  refine wpAnyH_take (i := 5) (oi := ?o6x5) (v := ?v6x5) ?hi6x5 (by kernel_rfl) ?hf6x5 ?hr6x5 (fun _ _ _ h => h) ?hy6x5 (by assumption) ?rest6x5
  case hi6x5 => (simp only [List.getElem?_toArray, List.getElem?_cons_succ, List.getElem?_cons_zero]; exact rfl)
  case hf6x5 => kernel_rfl
  case hr6x5 => kernel_rfl
  case hy6x5 => (refine Or.inl ⟨by rfl, ?_⟩; intro w hSw; (try dsimp only at hSw); go_simp; try with_reducible rfl)
  simp only [put_mk, List.set_cons_succ, List.set_cons_zero]
  refine wpAnyH_take (i := 6) (oi := ?o6x6) (v := ?v6x6) ?hi6x6 (by kernel_rfl) ?hf6x6 ?hr6x6 (fun _ _ _ h => h) ?hy6x6 (by assumption) ?rest6x6
  case hi6x6 => (simp only [List.getElem?_toArray, List.getElem?_cons_succ, List.getElem?_cons_zero]; exact rfl)
  case hf6x6 => kernel_rfl
  case hr6x6 => kernel_rfl
  case hy6x6 => (refine Or.inl ⟨by rfl, ?_⟩; intro w hSw; (try dsimp only at hSw); go_simp; try with_reducible rfl)
  simp only [put_mk, List.set_cons_succ, List.set_cons_zero]
  refine wpAnyH_take (i := 7) (oi := ?o6x7) (v := ?v6x7) ?hi6x7 (by kernel_rfl) ?hf6x7 ?hr6x7 (fun _ _ _ h => h) ?hy6x7 (by assumption) ?rest6x7
  case hi6x7 => (simp only [List.getElem?_toArray, List.getElem?_cons_succ, List.getElem?_cons_zero]; exact rfl)
  case hf6x7 => kernel_rfl
  case hr6x7 => kernel_rfl
  case hy6x7 => (refine Or.inl ⟨by rfl, ?_⟩; intro w hSw; (try dsimp only at hSw); go_simp; try with_reducible rfl)
  simp only [put_mk, List.set_cons_succ, List.set_cons_zero]
  refine wpAnyH_take (i := 9) (oi := ?o6x9) (v := ?v6x9) ?hi6x9 (by kernel_rfl) ?hf6x9 ?hr6x9 (fun _ _ _ h => h) ?hy6x9 (by assumption) ?rest6x9
  case hi6x9 => (simp only [List.getElem?_toArray, List.getElem?_cons_succ, List.getElem?_cons_zero]; exact rfl)
  case hf6x9 => kernel_rfl
  case hr6x9 => kernel_rfl
  case hy6x9 => (refine Or.inl ⟨by rfl, ?_⟩; intro w hSw; (try dsimp only at hSw); go_simp; try with_reducible rfl)
  simp only [put_mk, List.set_cons_succ, List.set_cons_zero]
  refine wpAnyH_ready (rs := [8]) (by kernel_rfl) (by simp) ?_
  refine AllReadyH.cons (o := ?o6x8) ?hi6x8 (fun K hK => ?_) AllReadyH.nil
  case hi6x8 => (simp only [List.getElem?_toArray, List.getElem?_cons_succ, List.getElem?_cons_zero]; exact rfl)
  go_simp
  go_at_call 113; refine (HD _).out.mono ?_; rintro e w5 ⟨rfl, hx5⟩
  refine hK.out _ _ ?_ (fun hHeld => ?_)
  · (first | (repeat (first | exact Ext.refl _ | assumption | refine Ext.setCell ?_ (by first | (simp; done) | (simp; omega)) _ | refine Ext.drewN ?_ _ | refine Ext.alloc ?_ _ | refine Ext.drew ?_ | refine Ext.trans ?_ (by assumption))))
  clear hK K
  refine wpAnyH_take (i := 10) (oi := ?o6x10) (v := ?v6x10) ?hi6x10 (by kernel_rfl) ?hf6x10 ?hr6x10 (fun _ _ _ h => h) ?hy6x10 (by assumption) ?rest6x10
  case hi6x10 => (simp only [List.getElem?_toArray, List.getElem?_cons_succ, List.getElem?_cons_zero]; exact rfl)
  case hf6x10 => kernel_rfl
  case hr6x10 => kernel_rfl
  case hy6x10 => (refine Or.inl ⟨by rfl, ?_⟩; intro w hSw; (try dsimp only at hSw); go_simp; try with_reducible rfl)
  simp only [put_mk, List.set_cons_succ, List.set_cons_zero]
  refine wpAnyH_take (i := 11) (oi := ?o6x11) (v := ?v6x11) ?hi6x11 (by kernel_rfl) ?hf6x11 ?hr6x11 (fun _ _ _ h => h) ?hy6x11 (by assumption) ?rest6x11
  case hi6x11 => (simp only [List.getElem?_toArray, List.getElem?_cons_succ, List.getElem?_cons_zero]; exact rfl)
  case hf6x11 => kernel_rfl
  case hr6x11 => kernel_rfl
  case hy6x11 => (refine Or.inl ⟨by rfl, ?_⟩; intro w hSw; (try dsimp only at hSw); go_simp; try with_reducible rfl)
  simp only [put_mk, List.set_cons_succ, List.set_cons_zero]
  refine wpAnyH_done (by kernel_rfl) ?_ _
  refine NoPanic.normal ?_
  go_wp2_with fail
  go_ret2
  exact ⟨rfl, (by repeat (first | exact Ext.refl _ | assumption | refine Ext.setCell ?_ (by first | (simp; done) | (simp; omega)) _ | refine Ext.drewN ?_ _ | refine Ext.alloc ?_ _ | refine Ext.drew ?_ | refine Ext.trans ?_ (by assumption)))⟩
set_option maxRecDepth 100000 in
set_option maxHeartbeats 6400000 in
theorem between_6 (ax ay bx by' : Int) (n : Nat) (w : World) (h1 : -16777216 ≤ ax ∧ ax ≤ 16777216) (h2 : -16777216 ≤ ay ∧ ay ≤ 16777216) (h3 : -16777216 ≤ bx ∧ bx ≤ 16777216) (h4 : -16777216 ≤ by' ∧ by' ≤ 16777216) (hn : 1 ≤ n) (hx : bx - ax = 0) (hy : by' - ay = (-(n : Int))) :
    Calls Try.prog 78 #[.agg #[.int .i64 ax, .int .i64 ay], .agg #[.int .i64 bx, .int .i64 by']] w fun e w' => e = .returned (.tuple #[.int .i64 6, .int .i64 n]) ∧ Ext w w' := by
  have hq := And.intro (And.intro h1 h2) (And.intro h3 h4)
  have hnb : n ≤ 33554432 := by omega
  clear hq
  have n0 : ¬ (n : Int) = 0 := by omega
  have nz : ¬ n = 0 := by omega
  have n1 : ¬ (-(n : Int)) = 0 := by omega
  have n2 : ¬ (n : Int) = -(n : Int) := by omega
  have n3 : ¬ (-(n : Int)) = (n : Int) := by omega
  have v1 := hidA (show wrap64 (bx - ax) = 0 by rw [hx]; exact IntWalk.wrap64_in _ ⟨by omega, by omega⟩)
  have v2 := hidA (show wrap64 (by' - ay) = (-(n : Int)) by rw [hy]; exact IntWalk.wrap64_in _ ⟨by omega, by omega⟩)
  have v3 := hidA (show max4 0 0 (-(n : Int)) (n : Int) = (n : Int) by unfold max4; omega)
  have m1 := hidA (show wrap64 (-(n : Int)) = -(n : Int) from IntWalk.wrap64_in _ ⟨by omega, by omega⟩)
  have m3 := hidA (show wrap64 (n : Int) = (n : Int) from IntWalk.wrap64_in _ ⟨by omega, by omega⟩)
  have HD := fun (w : World) => hidA (direction_any 6 w (by omega))
  have d1 : stepX (6 : Nat) = 0 := by decide
  have d2 : stepY (6 : Nat) = -1 := by decide
  rw [d1, d2] at HD
  have t1 := hidA (show Int.tdiv (n : Int) (n : Int) = 1 from Int.tdiv_self (by omega))
  have t2 := hidA (show Int.tdiv (-(n : Int)) (n : Int) = -1 by rw [Int.neg_tdiv, t1.out])
  have t3 : Int.tdiv 0 (n : Int) = 0 := Int.zero_tdiv _
  have v1 := v1.out
  have v2 := v2.out
  have v3 := v3.out
  have m1 := m1.out
  have m3 := m3.out
  have t1 := t1.out
  have t2 := t2.out
  clear hx hy d1 d2
  go_enter Try.func78, Try.ntmps78
  go_upto_region 1 with fail
  have kA : Bk ((w.alloc (.cells #[.int .i64 ax, .int .i64 ay] 32)).alloc (.cells #[.int .i64 bx, .int .i64 by'] 32)) w.heap.size 32 #[.int .i64 ax, .int .i64 ay] := (Bk.new' rfl).alloc _
  have kB : Bk ((w.alloc (.cells #[.int .i64 ax, .int .i64 ay] 32)).alloc (.cells #[.int .i64 bx, .int .i64 by'] 32)) (w.heap.size + 1) 32 #[.int .i64 bx, .int .i64 by'] := Bk.new' (by simp)
  have hx0 : Ext w ((w.alloc (.cells #[.int .i64 ax, .int .i64 ay] 32)).alloc (.cells #[.int .i64 bx, .int .i64 by'] 32)) := ((Ext.refl w).alloc _).alloc _
  generalize (w.alloc (.cells #[.int .i64 ax, .int .i64 ay] 32)).alloc (.cells #[.int .i64 bx, .int .i64 by'] 32) = w0 at *
  have a0 := kA.cell 0
  have a1 := kA.cell 1
  have b0 := kB.cell 0
  have b1 := kB.cell 1
  clear kA kB h1 h2 h3 h4
  go_quiet (fail)
  have hx1 : Ext w (w0.drewN nq) := hx0.drewN nq
  generalize w0.drewN nq = w1 at *
  clear a0 a1 b0 b1 hx0
  go_upto_region 5 with fail
  refine wp_region_noPanic ?_
  refine wp_region_held_drew (S := fun w' => Ext w w') (by kernel_rfl) ?_ (fun hHeld => ?_)
  · (first | (repeat (first | exact Ext.refl _ | assumption | refine Ext.setCell ?_ (by first | (simp; done) | (simp; omega)) _ | refine Ext.drewN ?_ _ | refine Ext.alloc ?_ _ | refine Ext.drew ?_ | refine Ext.trans ?_ (by assumption))))
  refine wpAnyH_take (i := 0) (oi := ?o7x0) (v := ?v7x0) ?hi7x0 (by kernel_rfl) ?hf7x0 ?hr7x0 (fun _ _ _ h => h) ?hy7x0 (by assumption) ?rest7x0
  case hi7x0 => (simp only [List.getElem?_toArray, List.getElem?_cons_zero]; exact rfl)
  case hf7x0 => kernel_rfl
  case hr7x0 => kernel_rfl
  case hy7x0 => (refine Or.inl ⟨by rfl, ?_⟩; intro w hSw; (try dsimp only at hSw); go_simp; try with_reducible rfl)
  simp only [put_mk, List.set_cons_succ, List.set_cons_zero]
  refine wpAnyH_take (i := 1) (oi := ?o7x1) (v := ?v7x1) ?hi7x1 (by kernel_rfl) ?hf7x1 ?hr7x1 (fun _ _ _ h => h) ?hy7x1 (by assumption) ?rest7x1
  case hi7x1 => (simp only [List.getElem?_toArray, List.getElem?_cons_succ, List.getElem?_cons_zero]; exact rfl)
  case hf7x1 => kernel_rfl
  case hr7x1 => kernel_rfl
  case hy7x1 => (refine Or.inl ⟨by rfl, ?_⟩; intro w hSw; (try dsimp only at hSw); go_simp; try with_reducible rfl)
  simp only [put_mk, List.set_cons_succ, List.set_cons_zero]
  refine wpAnyH_take (i := 2) (oi := ?o7x2) (v := ?v7x2) ?hi7x2 (by kernel_rfl) ?hf7x2 ?hr7x2 (fun _ _ _ h => h) ?hy7x2 (by assumption) ?rest7x2
  case hi7x2 => (simp only [List.getElem?_toArray, List.getElem?_cons_succ, List.getElem?_cons_zero]; exact rfl)
  case hf7x2 => kernel_rfl
  case hr7x2 => kernel_rfl
  case hy7x2 => (refine Or.inl ⟨by rfl, ?_⟩; intro w hSw; (try dsimp only at hSw); go_simp; try with_reducible rfl)
  simp only [put_mk, List.set_cons_succ, List.set_cons_zero]
  refine wpAnyH_take (i := 3) (oi := ?o7x3) (v := ?v7x3) ?hi7x3 (by kernel_rfl) ?hf7x3 ?hr7x3 (fun _ _ _ h => h) ?hy7x3 (by assumption) ?rest7x3
  case hi7x3 => (simp only [List.getElem?_toArray, List.getElem?_cons_succ, List.getElem?_cons_zero]; exact rfl)
  case hf7x3 => kernel_rfl
  case hr7x3 => kernel_rfl
  case hy7x3 => (refine Or.inl ⟨by rfl, ?_⟩; intro w hSw; (try dsimp only at hSw); go_simp; try with_reducible rfl)
  simp only [put_mk, List.set_cons_succ, List.set_cons_zero]
  refine wpAnyH_take (i := 4) (oi := ?o7x4) (v := ?v7x4) ?hi7x4 (by kernel_rfl) ?hf7x4 ?hr7x4 (fun _ _ _ h => h) ?hy7x4 (by assumption) ?rest7x4
  case hi7x4 => (simp only [List.getElem?_toArray, List.getElem?_cons_succ, List.getElem?_cons_zero]; exact rfl)
  case hf7x4 => kernel_rfl
  case hr7x4 => kernel_rfl
  case hy7x4 => (refine Or.inl ⟨by rfl, ?_⟩; intro w hSw; (try dsimp only at hSw); go_simp; try with_reducible rfl)
  simp only [put_mk, List.set_cons_succ, List.set_cons_zero]
  refine wpAnyH_take (i := 5) (oi := ?o7x5) (v := ?v7x5) ?hi7x5 (by kernel_rfl) ?hf7x5 ?hr7x5 (fun _ _ _ h => h) ?hy7x5 (by assumption) ?rest7x5
  case hi7x5 => (simp only [List.getElem?_toArray, List.getElem?_cons_succ, List.getElem?_cons_zero]; exact rfl)
  case hf7x5 => kernel_rfl
  case hr7x5 => kernel_rfl
  case hy7x5 => (refine Or.inl ⟨by rfl, ?_⟩; intro w hSw; (try dsimp only at hSw); go_simp; try with_reducible rfl)
  simp only [put_mk, List.set_cons_succ, List.set_cons_zero]
  refine wpAnyH_take (i := 6) (oi := ?o7x6) (v := ?v7x6) ?hi7x6 (by kernel_rfl) ?hf7x6 ?hr7x6 (fun _ _ _ h => h) ?hy7x6 (by assumption) ?rest7x6
  case hi7x6 => (simp only [List.getElem?_toArray, List.getElem?_cons_succ, List.getElem?_cons_zero]; exact rfl)
  case hf7x6 => kernel_rfl
  case hr7x6 => kernel_rfl
  case hy7x6 => (refine Or.inl ⟨by rfl, ?_⟩; intro w hSw; (try dsimp only at hSw); go_simp; try with_reducible rfl)
  simp only [put_mk, List.set_cons_succ, List.set_cons_zero]
  refine wpAnyH_take (i := 7) (oi := ?o7x7) (v := ?v7x7) ?hi7x7 (by kernel_rfl) ?hf7x7 ?hr7x7 (fun _ _ _ h => h) ?hy7x7 (by assumption) ?rest7x7
  case hi7x7 => (simp only [List.getElem?_toArray, List.getElem?_cons_succ, List.getElem?_cons_zero]; exact rfl)
  case hf7x7 => kernel_rfl
  case hr7x7 => kernel_rfl
  case hy7x7 => (refine Or.inl ⟨by rfl, ?_⟩; intro w hSw; (try dsimp only at hSw); go_simp; try with_reducible rfl)
  simp only [put_mk, List.set_cons_succ, List.set_cons_zero]
  refine wpAnyH_take (i := 9) (oi := ?o7x9) (v := ?v7x9) ?hi7x9 (by kernel_rfl) ?hf7x9 ?hr7x9 (fun _ _ _ h => h) ?hy7x9 (by assumption) ?rest7x9
  case hi7x9 => (simp only [List.getElem?_toArray, List.getElem?_cons_succ, List.getElem?_cons_zero]; exact rfl)
  case hf7x9 => kernel_rfl
  case hr7x9 => kernel_rfl
  case hy7x9 => (refine Or.inl ⟨by rfl, ?_⟩; intro w hSw; (try dsimp only at hSw); go_simp; try with_reducible rfl)
  simp only [put_mk, List.set_cons_succ, List.set_cons_zero]
  refine wpAnyH_ready (rs := [8]) (by kernel_rfl) (by simp) ?_
  refine AllReadyH.cons (o := ?o7x8) ?hi7x8 (fun K hK => ?_) AllReadyH.nil
  case hi7x8 => (simp only [List.getElem?_toArray, List.getElem?_cons_succ, List.getElem?_cons_zero]; exact rfl)
  go_simp
  go_at_call 113; refine (HD _).out.mono ?_; rintro e w5 ⟨rfl, hx5⟩
  refine hK.out _ _ ?_ (fun hHeld => ?_)
  · (first | (repeat (first | exact Ext.refl _ | assumption | refine Ext.setCell ?_ (by first | (simp; done) | (simp; omega)) _ | refine Ext.drewN ?_ _ | refine Ext.alloc ?_ _ | refine Ext.drew ?_ | refine Ext.trans ?_ (by assumption))))
  clear hK K
  refine wpAnyH_take (i := 10) (oi := ?o7x10) (v := ?v7x10) ?hi7x10 (by kernel_rfl) ?hf7x10 ?hr7x10 (fun _ _ _ h => h) ?hy7x10 (by assumption) ?rest7x10
  case hi7x10 => (simp only [List.getElem?_toArray, List.getElem?_cons_succ, List.getElem?_cons_zero]; exact rfl)
  case hf7x10 => kernel_rfl
  case hr7x10 => kernel_rfl
  case hy7x10 => (refine Or.inl ⟨by rfl, ?_⟩; intro w hSw; (try dsimp only at hSw); go_simp; try with_reducible rfl)
  simp only [put_mk, List.set_cons_succ, List.set_cons_zero]
  refine wpAnyH_take (i := 11) (oi := ?o7x11) (v := ?v7x11) ?hi7x11 (by kernel_rfl) ?hf7x11 ?hr7x11 (fun _ _ _ h => h) ?hy7x11 (by assumption) ?rest7x11
  case hi7x11 => (simp only [List.getElem?_toArray, List.getElem?_cons_succ, List.getElem?_cons_zero]; exact rfl)
  case hf7x11 => kernel_rfl
  case hr7x11 => kernel_rfl
  case hy7x11 => (refine Or.inl ⟨by rfl, ?_⟩; intro w hSw; (try dsimp only at hSw); go_simp; try with_reducible rfl)
  simp only [put_mk, List.set_cons_succ, List.set_cons_zero]
  refine wpAnyH_done (by kernel_rfl) ?_ _
  refine NoPanic.normal ?_
  go_wp2_with fail
  go_ret2
  exact ⟨rfl, (by repeat (first | exact Ext.refl _ | assumption | refine Ext.setCell ?_ (by first | (simp; done) | (simp; omega)) _ | refine Ext.drewN ?_ _ | refine Ext.alloc ?_ _ | refine Ext.drew ?_ | refine Ext.trans ?_ (by assumption)))⟩
set_option maxRecDepth 100000 in
set_option maxHeartbeats 6400000 in
theorem between_7 (ax ay bx by' : Int) (n : Nat) (w : World) (h1 : -16777216 ≤ ax ∧ ax ≤ 16777216) (h2 : -16777216 ≤ ay ∧ ay ≤ 16777216) (h3 : -16777216 ≤ bx ∧ bx ≤ 16777216) (h4 : -16777216 ≤ by' ∧ by' ≤ 16777216) (hn : 1 ≤ n) (hx : bx - ax = (n : Int)) (hy : by' - ay = (-(n : Int))) :
    Calls Try.prog 78 #[.agg #[.int .i64 ax, .int .i64 ay], .agg #[.int .i64 bx, .int .i64 by']] w fun e w' => e = .returned (.tuple #[.int .i64 7, .int .i64 n]) ∧ Ext w w' := by
  have hq := And.intro (And.intro h1 h2) (And.intro h3 h4)
  have hnb : n ≤ 33554432 := by omega
  clear hq
  have n0 : ¬ (n : Int) = 0 := by omega
  have nz : ¬ n = 0 := by omega
  have n1 : ¬ (-(n : Int)) = 0 := by omega
  have n2 : ¬ (n : Int) = -(n : Int) := by omega
  have n3 : ¬ (-(n : Int)) = (n : Int) := by omega
  have v1 := hidA (show wrap64 (bx - ax) = (n : Int) by rw [hx]; exact IntWalk.wrap64_in _ ⟨by omega, by omega⟩)
  have v2 := hidA (show wrap64 (by' - ay) = (-(n : Int)) by rw [hy]; exact IntWalk.wrap64_in _ ⟨by omega, by omega⟩)
  have v3 := hidA (show max4 (n : Int) (-(n : Int)) (-(n : Int)) (n : Int) = (n : Int) by unfold max4; omega)
  have m1 := hidA (show wrap64 (-(n : Int)) = -(n : Int) from IntWalk.wrap64_in _ ⟨by omega, by omega⟩)
  have m3 := hidA (show wrap64 (n : Int) = (n : Int) from IntWalk.wrap64_in _ ⟨by omega, by omega⟩)
  have HD := fun (w : World) => hidA (direction_any 7 w (by omega))
  have d1 : stepX (7 : Nat) = 1 := by decide
  have d2 : stepY (7 : Nat) = -1 := by decide
  rw [d1, d2] at HD
  have t1 := hidA (show Int.tdiv (n : Int) (n : Int) = 1 from Int.tdiv_self (by omega))
  have t2 := hidA (show Int.tdiv (-(n : Int)) (n : Int) = -1 by rw [Int.neg_tdiv, t1.out])
  have t3 : Int.tdiv 0 (n : Int) = 0 := Int.zero_tdiv _
  have v1 := v1.out
  have v2 := v2.out
  have v3 := v3.out
  have m1 := m1.out
  have m3 := m3.out
  have t1 := t1.out
  have t2 := t2.out
  clear hx hy d1 d2
  go_enter Try.func78, Try.ntmps78
  go_upto_region 1 with fail
  have kA : Bk ((w.alloc (.cells #[.int .i64 ax, .int .i64 ay] 32)).alloc (.cells #[.int .i64 bx, .int .i64 by'] 32)) w.heap.size 32 #[.int .i64 ax, .int .i64 ay] := (Bk.new' rfl).alloc _
  have kB : Bk ((w.alloc (.cells #[.int .i64 ax, .int .i64 ay] 32)).alloc (.cells #[.int .i64 bx, .int .i64 by'] 32)) (w.heap.size + 1) 32 #[.int .i64 bx, .int .i64 by'] := Bk.new' (by simp)
  have hx0 : Ext w ((w.alloc (.cells #[.int .i64 ax, .int .i64 ay] 32)).alloc (.cells #[.int .i64 bx, .int .i64 by'] 32)) := ((Ext.refl w).alloc _).alloc _
  generalize (w.alloc (.cells #[.int .i64 ax, .int .i64 ay] 32)).alloc (.cells #[.int .i64 bx, .int .i64 by'] 32) = w0 at *
  have a0 := kA.cell 0
  have a1 := kA.cell 1
  have b0 := kB.cell 0
  have b1 := kB.cell 1
  clear kA kB h1 h2 h3 h4
  go_quiet (fail)
  have hx1 : Ext w (w0.drewN nq) := hx0.drewN nq
  generalize w0.drewN nq = w1 at *
  clear a0 a1 b0 b1 hx0
  go_upto_region 5 with fail
  refine wp_region_noPanic ?_
  refine wp_region_held_drew (S := fun w' => Ext w w') (by kernel_rfl) ?_ (fun hHeld => ?_)
  · (first | (repeat (first | exact Ext.refl _ | assumption | refine Ext.setCell ?_ (by first | (simp; done) | (simp; omega)) _ | refine Ext.drewN ?_ _ | refine Ext.alloc ?_ _ | refine Ext.drew ?_ | refine Ext.trans ?_ (by assumption))))
  refine wpAnyH_take (i := 0) (oi := ?o8x0) (v := ?v8x0) ?hi8x0 (by kernel_rfl) ?hf8x0 ?hr8x0 (fun _ _ _ h => h) ?hy8x0 (by assumption) ?rest8x0
  case hi8x0 => (simp only [List.getElem?_toArray, List.getElem?_cons_zero]; exact rfl)
  case hf8x0 => kernel_rfl
  case hr8x0 => kernel_rfl
  case hy8x0 => (refine Or.inl ⟨by rfl, ?_⟩; intro w hSw; (try dsimp only at hSw); go_simp; try with_reducible rfl)
  simp only [put_mk, List.set_cons_succ, List.set_cons_zero]
  refine wpAnyH_take (i := 1) (oi := ?o8x1) (v := ?v8x1) ?hi8x1 (by kernel_rfl) ?hf8x1 ?hr8x1 (fun _ _ _ h => h) ?hy8x1 (by assumption) ?rest8x1
  case hi8x1 => (simp only [List.getElem?_toArray, List.getElem?_cons_succ, List.getElem?_cons_zero]; exact rfl)
  case hf8x1 => kernel_rfl
  case hr8x1 => kernel_rfl
  case hy8x1 => (refine Or.inl ⟨by rfl, ?_⟩; intro w hSw; (try dsimp only at hSw); go_simp; try with_reducible rfl)
  simp only [put_mk, List.set_cons_succ, List.set_cons_zero]
  refine wpAnyH_take (i := 2) (oi := ?o8x2) (v := ?v8x2) ?hi8x2 (by kernel_rfl) ?hf8x2 ?hr8x2 (fun _ _ _ h => h) ?hy8x2 (by assumption) ?rest8x2
  case hi8x2 => (simp only [List.getElem?_toArray, List.getElem?_cons_succ, List.getElem?_cons_zero]; exact rfl)
  case hf8x2 => kernel_rfl
  case hr8x2 => kernel_rfl
  case hy8x2 => (refine Or.inl ⟨by rfl, ?_⟩; intro w hSw; (try dsimp only at hSw); go_simp; try with_reducible rfl)
  simp only [put_mk, List.set_cons_succ, List.set_cons_zero]
  refine wpAnyH_take (i := 3) (oi := ?o8x3) (v := ?v8x3) ?hi8x3 (by kernel_rfl) ?hf8x3 ?hr8x3 (fun _ _ _ h => h) ?hy8x3 (by assumption) ?rest8x3
  case hi8x3 => (simp only [List.getElem?_toArray, List.getElem?_cons_succ, List.getElem?_cons_zero]; exact rfl)
  case hf8x3 => kernel_rfl
  case hr8x3 => kernel_rfl
  case hy8x3 => (refine Or.inl ⟨by rfl, ?_⟩; intro w hSw; (try dsimp only at hSw); go_simp; try with_reducible rfl)
  simp only [put_mk, List.set_cons_succ, List.set_cons_zero]
  refine wpAnyH_take (i := 4) (oi := ?o8x4) (v := ?v8x4) ?hi8x4 (by kernel_rfl) ?hf8x4 ?hr8x4 (fun _ _ _ h => h) ?hy8x4 (by assumption) ?rest8x4
  case hi8x4 => (simp only [List.getElem?_toArray, List.getElem?_cons_succ, List.getElem?_cons_zero]; exact rfl)
  case hf8x4 => kernel_rfl
  case hr8x4 => kernel_rfl
  case hy8x4 => (refine Or.inl ⟨by rfl, ?_⟩; intro w hSw; (try dsimp only at hSw); go_simp; try with_reducible rfl)
  simp only [put_mk, List.set_cons_succ, List.set_cons_zero]
  refine wpAnyH_take (i := 5) (oi := ?o8x5) (v := ?v8x5) ?hi8x5 (by kernel_rfl) ?hf8x5 ?hr8x5 (fun _ _ _ h => h) ?hy8x5 (by assumption) ?rest8x5
  case hi8x5 => (simp only [List.getElem?_toArray, List.getElem?_cons_succ, List.getElem?_cons_zero]; exact rfl)
  case hf8x5 => kernel_rfl
  case hr8x5 => kernel_rfl
  case hy8x5 => (refine Or.inl ⟨by rfl, ?_⟩; intro w hSw; (try dsimp only at hSw); go_simp; try with_reducible rfl)
  simp only [put_mk, List.set_cons_succ, List.set_cons_zero]
  refine wpAnyH_take (i := 6) (oi := ?o8x6) (v := ?v8x6) ?hi8x6 (by kernel_rfl) ?hf8x6 ?hr8x6 (fun _ _ _ h => h) ?hy8x6 (by assumption) ?rest8x6
  case hi8x6 => (simp only [List.getElem?_toArray, List.getElem?_cons_succ, List.getElem?_cons_zero]; exact rfl)
  case hf8x6 => kernel_rfl
  case hr8x6 => kernel_rfl
  case hy8x6 => (refine Or.inl ⟨by rfl, ?_⟩; intro w hSw; (try dsimp only at hSw); go_simp; try with_reducible rfl)
  simp only [put_mk, List.set_cons_succ, List.set_cons_zero]
  refine wpAnyH_take (i := 7) (oi := ?o8x7) (v := ?v8x7) ?hi8x7 (by kernel_rfl) ?hf8x7 ?hr8x7 (fun _ _ _ h => h) ?hy8x7 (by assumption) ?rest8x7
  case hi8x7 => (simp only [List.getElem?_toArray, List.getElem?_cons_succ, List.getElem?_cons_zero]; exact rfl)
  case hf8x7 => kernel_rfl
  case hr8x7 => kernel_rfl
  case hy8x7 => (refine Or.inl ⟨by rfl, ?_⟩; intro w hSw; (try dsimp only at hSw); go_simp; try with_reducible rfl)
  simp only [put_mk, List.set_cons_succ, List.set_cons_zero]
  refine wpAnyH_take (i := 9) (oi := ?o8x9) (v := ?v8x9) ?hi8x9 (by kernel_rfl) ?hf8x9 ?hr8x9 (fun _ _ _ h => h) ?hy8x9 (by assumption) ?rest8x9
  case hi8x9 => (simp only [List.getElem?_toArray, List.getElem?_cons_succ, List.getElem?_cons_zero]; exact rfl)
  case hf8x9 => kernel_rfl
  case hr8x9 => kernel_rfl
  case hy8x9 => (refine Or.inl ⟨by rfl, ?_⟩; intro w hSw; (try dsimp only at hSw); go_simp; try with_reducible rfl)
  simp only [put_mk, List.set_cons_succ, List.set_cons_zero]
  refine wpAnyH_ready (rs := [8]) (by kernel_rfl) (by simp) ?_
  refine AllReadyH.cons (o := ?o8x8) ?hi8x8 (fun K hK => ?_) AllReadyH.nil
  case hi8x8 => (simp only [List.getElem?_toArray, List.getElem?_cons_succ, List.getElem?_cons_zero]; exact rfl)
  go_simp
  go_at_call 113; refine (HD _).out.mono ?_; rintro e w5 ⟨rfl, hx5⟩
  refine hK.out _ _ ?_ (fun hHeld => ?_)
  · (first | (repeat (first | exact Ext.refl _ | assumption | refine Ext.setCell ?_ (by first | (simp; done) | (simp; omega)) _ | refine Ext.drewN ?_ _ | refine Ext.alloc ?_ _ | refine Ext.drew ?_ | refine Ext.trans ?_ (by assumption))))
  clear hK K
  refine wpAnyH_take (i := 10) (oi := ?o8x10) (v := ?v8x10) ?hi8x10 (by kernel_rfl) ?hf8x10 ?hr8x10 (fun _ _ _ h => h) ?hy8x10 (by assumption) ?rest8x10
  case hi8x10 => (simp only [List.getElem?_toArray, List.getElem?_cons_succ, List.getElem?_cons_zero]; exact rfl)
  case hf8x10 => kernel_rfl
  case hr8x10 => kernel_rfl
  case hy8x10 => (refine Or.inl ⟨by rfl, ?_⟩; intro w hSw; (try dsimp only at hSw); go_simp; try with_reducible rfl)
  simp only [put_mk, List.set_cons_succ, List.set_cons_zero]
  refine wpAnyH_take (i := 11) (oi := ?o8x11) (v := ?v8x11) ?hi8x11 (by kernel_rfl) ?hf8x11 ?hr8x11 (fun _ _ _ h => h) ?hy8x11 (by assumption) ?rest8x11
  case hi8x11 => (simp only [List.getElem?_toArray, List.getElem?_cons_succ, List.getElem?_cons_zero]; exact rfl)
  case hf8x11 => kernel_rfl
  case hr8x11 => kernel_rfl
  case hy8x11 => (refine Or.inl ⟨by rfl, ?_⟩; intro w hSw; (try dsimp only at hSw); go_simp; try with_reducible rfl)
  simp only [put_mk, List.set_cons_succ, List.set_cons_zero]
  refine wpAnyH_done (by kernel_rfl) ?_ _
  refine NoPanic.normal ?_
  go_wp2_with fail
  go_ret2
  exact ⟨rfl, (by repeat (first | exact Ext.refl _ | assumption | refine Ext.setCell ?_ (by first | (simp; done) | (simp; omega)) _ | refine Ext.drewN ?_ _ | refine Ext.alloc ?_ _ | refine Ext.drew ?_ | refine Ext.trans ?_ (by assumption)))⟩
set_option maxRecDepth 100000 in
set_option maxHeartbeats 6400000 in
theorem between_none (ax ay bx by' : Int) (w : World) (h1 : -16777216 ≤ ax ∧ ax ≤ 16777216) (h2 : -16777216 ≤ ay ∧ ay ≤ 16777216) (h3 : -16777216 ≤ bx ∧ bx ≤ 16777216) (h4 : -16777216 ≤ by' ∧ by' ≤ 16777216) (hno : leapO (bx - ax) (by' - ay) = none) :
    Calls Try.prog 78 #[.agg #[.int .i64 ax, .int .i64 ay], .agg #[.int .i64 bx, .int .i64 by']] w fun e w' => e = .returned (.tuple #[.int .i64 (-1), .int .i64 0]) ∧ Ext w w' := by
  have hno2 : (bx - ax = 0 ∧ by' - ay = 0) ∨ (¬ max4 (bx - ax) (-(bx - ax)) (by' - ay) (-(by' - ay)) = 0 ∧ ¬ bx - ax = 0 ∧ ¬ by' - ay = 0 ∧ ¬ bx - ax = by' - ay ∧ ¬ bx - ax = -(by' - ay)) := by
    unfold leapO at hno
    unfold max4
    repeat' (split at hno)
    all_goals first | (cases hno; done) | omega
  have v1 := hidA (show wrap64 (bx - ax) = bx - ax from IntWalk.wrap64_in _ ⟨by omega, by omega⟩)
  have v2 := hidA (show wrap64 (by' - ay) = by' - ay from IntWalk.wrap64_in _ ⟨by omega, by omega⟩)
  have v5 := hidA (show wrap64 (-(bx - ax)) = -(bx - ax) from IntWalk.wrap64_in _ ⟨by omega, by omega⟩)
  have v6 := hidA (show wrap64 (-(by' - ay)) = -(by' - ay) from IntWalk.wrap64_in _ ⟨by omega, by omega⟩)
  have v1 := v1.out
  have v2 := v2.out
  have v5 := v5.out
  have v6 := v6.out
  clear hno
  have Hno := hidA hno2
  clear hno2
  go_enter Try.func78, Try.ntmps78
  go_upto_region 1 with fail
  have kA : Bk ((w.alloc (.cells #[.int .i64 ax, .int .i64 ay] 32)).alloc (.cells #[.int .i64 bx, .int .i64 by'] 32)) w.heap.size 32 #[.int .i64 ax, .int .i64 ay] := (Bk.new' rfl).alloc _
  have kB : Bk ((w.alloc (.cells #[.int .i64 ax, .int .i64 ay] 32)).alloc (.cells #[.int .i64 bx, .int .i64 by'] 32)) (w.heap.size + 1) 32 #[.int .i64 bx, .int .i64 by'] := Bk.new' (by simp)
  have hx0 : Ext w ((w.alloc (.cells #[.int .i64 ax, .int .i64 ay] 32)).alloc (.cells #[.int .i64 bx, .int .i64 by'] 32)) := ((Ext.refl w).alloc _).alloc _
  generalize (w.alloc (.cells #[.int .i64 ax, .int .i64 ay] 32)).alloc (.cells #[.int .i64 bx, .int .i64 by'] 32) = w0 at *
  have a0 := kA.cell 0
  have a1 := kA.cell 1
  have b0 := kB.cell 0
  have b1 := kB.cell 1
  clear kA kB h1 h2 h3 h4
  go_quiet (fail)
  have hx1 : Ext w (w0.drewN nq) := hx0.drewN nq
  generalize w0.drewN nq = w1 at *
  clear a0 a1 b0 b1 hx0
  have h9 := Hno.out
  generalize bx - ax = x at *
  generalize by' - ay = y at *
  rcases h9 with ⟨rfl, rfl⟩ | ⟨n0, n1, n2, n3, n4⟩
  · have e0 : max4 0 0 0 0 = 0 := by decide
    go_wp2
    go_ret2
    exact ⟨rfl, hx1⟩
  · have b0 : (max4 x (-x) y (-y) == 0) = false := by simp [n0]
    have b1 : (x != 0) = true := by simp [n1]
    have b2 : (y != 0) = true := by simp [n2]
    have b3 : (x != y) = true := by simp [n3]
    have b4 : (x != -y) = true := by simp [n4]
    go_wp2
    go_ret2
    exact ⟨rfl, hx1⟩
theorem between_any (ax ay bx by' : Int) (w : World) (h1 : -16777216 ≤ ax ∧ ax ≤ 16777216) (h2 : -16777216 ≤ ay ∧ ay ≤ 16777216) (h3 : -16777216 ≤ bx ∧ bx ≤ 16777216) (h4 : -16777216 ≤ by' ∧ by' ≤ 16777216) :
    Calls Try.prog 78 #[.agg #[.int .i64 ax, .int .i64 ay], .agg #[.int .i64 bx, .int .i64 by']] w fun e w' => e = .returned (btV (bx - ax) (by' - ay)) ∧ Ext w w' := by
  cases h : leapO (bx - ax) (by' - ay) with
  | none =>
    unfold btV
    rw [h]
    exact between_none ax ay bx by' w h1 h2 h3 h4 h
  | some p =>
    obtain ⟨d, n⟩ := p
    unfold btV
    rw [h]
    obtain ⟨hd, hn, hx, hy⟩ := leapO_spec h
    have h8 : d = 0 ∨ d = 1 ∨ d = 2 ∨ d = 3 ∨ d = 4 ∨ d = 5 ∨ d = 6 ∨ d = 7 := by omega
    rcases h8 with rfl | rfl | rfl | rfl | rfl | rfl | rfl | rfl
    · exact between_0 ax ay bx by' n w h1 h2 h3 h4 hn (by rw [hx, show stepX ((0 : Nat) : Int) = 1 by decide]; omega) (by rw [hy, show stepY ((0 : Nat) : Int) = 0 by decide]; omega)
    · exact between_1 ax ay bx by' n w h1 h2 h3 h4 hn (by rw [hx, show stepX ((1 : Nat) : Int) = 1 by decide]; omega) (by rw [hy, show stepY ((1 : Nat) : Int) = 1 by decide]; omega)
    · exact between_2 ax ay bx by' n w h1 h2 h3 h4 hn (by rw [hx, show stepX ((2 : Nat) : Int) = 0 by decide]; omega) (by rw [hy, show stepY ((2 : Nat) : Int) = 1 by decide]; omega)
    · exact between_3 ax ay bx by' n w h1 h2 h3 h4 hn (by rw [hx, show stepX ((3 : Nat) : Int) = -1 by decide]; omega) (by rw [hy, show stepY ((3 : Nat) : Int) = 1 by decide]; omega)
    · exact between_4 ax ay bx by' n w h1 h2 h3 h4 hn (by rw [hx, show stepX ((4 : Nat) : Int) = -1 by decide]; omega) (by rw [hy, show stepY ((4 : Nat) : Int) = 0 by decide]; omega)
    · exact between_5 ax ay bx by' n w h1 h2 h3 h4 hn (by rw [hx, show stepX ((5 : Nat) : Int) = -1 by decide]; omega) (by rw [hy, show stepY ((5 : Nat) : Int) = -1 by decide]; omega)
    · exact between_6 ax ay bx by' n w h1 h2 h3 h4 hn (by rw [hx, show stepX ((6 : Nat) : Int) = 0 by decide]; omega) (by rw [hy, show stepY ((6 : Nat) : Int) = -1 by decide]; omega)
    · exact between_7 ax ay bx by' n w h1 h2 h3 h4 hn (by rw [hx, show stepX ((7 : Nat) : Int) = 1 by decide]; omega) (by rw [hy, show stepY ((7 : Nat) : Int) = -1 by decide]; omega)
end Go.Proofs.Ytpgdinpckolfpaa
