/- What is seen: level.sees, with the numbers that it reckons. -/
import Derived.Test.YtjfipkccbapajaaFloatB
import Derived.Test.YtjfipkccbapajaaProfileB
import Derived.Deep.DeepCutAuto
namespace Go.Proofs.Ytjfipkccbapajaa
open Go.RowKit
attribute [local go_sem ↓] Go.wp_at_zero Go.wp_at_succ
attribute [local go_sem] run_max4

theorem put_mk (l : List Value) (D : List Deferred) (d : Nat) (v : Value) : Act.put ⟨l.toArray, D⟩ (some d) v = ⟨(l.set d v).toArray, D⟩ := by simp [Act.put]

def fadd (x y : Nat) : Nat := (floatBits .add .f32 x y).getD 0
def fsub (x y : Nat) : Nat := (floatBits .sub .f32 x y).getD 0
def fmul (x y : Nat) : Nat := (floatBits .mul .f32 x y).getD 0
def fdiv (x y : Nat) : Nat := (floatBits .quo .f32 x y).getD 0
theorem fadd_ok {K x y : Nat} (hx : Bd K x) (hy : Bd K y) (hK : K ≤ 120) : floatBits .add .f32 x y = some (fadd x y) ∧ Bd (K + 2) (fadd x y) := by
  obtain ⟨r, e, hb⟩ := fadd_bd hx hy (by omega)
  have e' : floatBits .add .f32 x y = some r := e
  simp [fadd, e', hb]
theorem fsub_ok {K x y : Nat} (hx : Bd K x) (hy : Bd K y) (hK : K ≤ 120) : floatBits .sub .f32 x y = some (fsub x y) ∧ Bd (K + 2) (fsub x y) := by
  obtain ⟨r, e, hb⟩ := fsub_bd hx hy (by omega)
  have e' : floatBits .sub .f32 x y = some r := e
  simp [fsub, e', hb]
theorem fmul_ok {K J x y : Nat} (hx : Bd K x) (hy : Bd J y) (hK : K + J ≤ 120) : floatBits .mul .f32 x y = some (fmul x y) ∧ Bd (K + J + 1) (fmul x y) := by
  obtain ⟨r, e, hb⟩ := fmul_bd hx hy (by omega)
  have e' : floatBits .mul .f32 x y = some r := e
  simp [fmul, e', hb]
theorem fdiv_ok {K x y : Nat} (hx : Bd K x) (hy : Ge1 y) (hK : K ≤ 120) : floatBits .quo .f32 x y = some (fdiv x y) ∧ Bd (K + 2) (fdiv x y) := by
  obtain ⟨r, e, hb⟩ := fdiv_bd hx hy hK
  have e' : floatBits .quo .f32 x y = some r := e
  simp [fdiv, e', hb]

def ratio (i n : Int) : Nat := fdiv (floatOfInt .f32 i) (floatOfInt .f32 n)
def mixF (p q t : Nat) : Nat := fadd p (fmul (fsub q p) t)
theorem ratio_ok {i n : Int} (h0 : 0 ≤ i) (hi : i < n) (hn : n ≤ 65535) : floatBits .quo .f32 (floatOfInt .f32 i) (floatOfInt .f32 n) = some (ratio i n) ∧ Bd 18 (ratio i n) :=
  fdiv_ok (K := 16) (int_bd (by omega) (by omega)) (int_ge (by omega) (by have : (65536 : Nat) < 2 ^ 127 := by decide
                                                                          omega)) (by omega)
theorem mix_ok {p q t : Nat} (hp : Bd 22 p) (hq : Bd 20 q) (ht : Bd 18 t) : floatBits .sub .f32 q p = some (fsub q p) ∧ floatBits .mul .f32 (fsub q p) t = some (fmul (fsub q p) t) ∧ floatBits .add .f32 p (fmul (fsub q p) t) = some (mixF p q t) ∧ Bd 45 (mixF p q t) := by
  have h1 := fsub_ok (hq.mono (show 20 ≤ 22 by omega)) hp (by omega)
  have h2 := fmul_ok h1.2 ht (by omega)
  have h3 := fadd_ok (hp.mono (show 22 ≤ 43 by omega)) h2.2 (by omega)
  exact ⟨h1.1, h2.1, h3.1, h3.2⟩

theorem mix_any (p q t d u r : Nat) (w : World) (h1 : floatBits .sub .f32 q p = some d) (h2 : floatBits .mul .f32 d t = some u) (h3 : floatBits .add .f32 p u = some r) :
    Calls Try.prog 170 #[.float .f32 p, .float .f32 q, .float .f32 t] w fun e w' => e = .returned (.float .f32 r) ∧ w' = w := by
  have q1 := fun (w : World) => run_float_arith (P := Try.prog) w .sub 71 .f32 q p d h1
  have q2 := fun (w : World) => run_float_arith (P := Try.prog) w .mul 71 .f32 d t u h2
  have q3 := fun (w : World) => run_float_arith (P := Try.prog) w .add 71 .f32 p u r h3
  clear h1 h2 h3
  go_enter Try.func170, Try.ntmps170
  go_wp2
  go_ret
  exact ⟨rfl, rfl⟩

theorem at_in (X Y W H x y : Int) (A : Option Addr) (n c : Nat) (l : List Nat) (w : World) (hr : RegOk X Y W H) (h : InR X Y W H x y) (hn : l.length = n) (hnw : (n : Int) = W * H) (hd : Rd w A (flt l)) :
    Calls Try.prog 91 #[.agg #[.int .i64 X, .int .i64 Y, .int .i64 W, .int .i64 H, .slice A n c], .agg #[.int .i64 x, .int .i64 y]] w fun e w' => e = .returned (.float .f32 (valAt X Y W l (x, y))) ∧ Ext w w' := by
  obtain ⟨k, hk, _, hv⟩ := valAt_get hr h (by rw [hn]; exact hnw)
  exact at_any X Y W H x y A n c l w hr h hn hnw hd k hk _ hv

/-- the ground between hides -/
def blockB (X Y W : Int) (l : List Nat) (ax ay bx by' : Int) (p q : Nat) (n i : Nat) : Bool := ord (valAt X Y W l (linePt ax ay bx by' n i)) (mixF p q (ratio i n)) == some .gt
def seesB (X Y W : Int) (l : List Nat) (ax ay bx by' : Int) (p q n : Nat) : Bool := (List.range n).all (fun i => i == 0 || !blockB X Y W l ax ay bx by' p q n i)
def Open (X Y W : Int) (l : List Nat) (ax ay bx by' : Int) (p q n k : Nat) : Prop := ∀ i, 1 ≤ i → i < k → blockB X Y W l ax ay bx by' p q n i = false
theorem sees_yes {X Y W : Int} {l : List Nat} {ax ay bx by' : Int} {p q n k : Nat} (h : Open X Y W l ax ay bx by' p q n k) (hk : n ≤ k) : seesB X Y W l ax ay bx by' p q n = true := by
  unfold seesB
  rw [List.all_eq_true]
  intro i hi
  have := List.mem_range.1 hi
  rcases Nat.eq_zero_or_pos i with rfl | h0
  · rfl
  · simp [h i h0 (by omega)]
theorem sees_no {X Y W : Int} {l : List Nat} {ax ay bx by' : Int} {p q n k : Nat} (h0 : 1 ≤ k) (hk : k < n) (h : blockB X Y W l ax ay bx by' p q n k = true) : seesB X Y W l ax ay bx by' p q n = false := by
  unfold seesB
  rw [List.all_eq_false]
  exact ⟨k, List.mem_range.2 hk, by simp [h]; omega⟩

set_option maxRecDepth 100000 in
set_option maxHeartbeats 3200000 in
theorem sees_any (X Y W H ax ay bx by' : Int) (A : Option Addr) (m c n eye : Nat) (l : List Nat) (w : World) (hl : l.length = m) (hn : (m : Int) = W * H) (hd : Rd w A (flt l)) (hr : RegOk X Y W H) (hia : InR X Y W H ax ay) (hib : InR X Y W H bx by')
    (hs : stepsZ ax ay bx by' = n) (hs2 : n ≤ 65535) (hh : ∀ b ∈ l, hgtB b = true) (he : hgtB eye = true) :
    Calls Try.prog 129 #[.agg #[.int .i64 X, .int .i64 Y, .int .i64 W, .int .i64 H, .slice A m c], .agg #[.int .i64 ax, .int .i64 ay], .agg #[.int .i64 bx, .int .i64 by'], .float .f32 eye] w fun e w' =>
      e = .returned (.bool (seesB X Y W l ax ay bx by' (fadd (valAt X Y W l (ax, ay)) eye) (valAt X Y W l (bx, by')) n)) ∧ Ext w w' := by
  have hv : ∀ x y, InR X Y W H x y → Bd 20 (valAt X Y W l (x, y)) := fun x y h => by
    obtain ⟨k, _, hk, hv⟩ := valAt_get hr h (by rw [hl]; exact hn)
    exact hgt_bd (hh _ (List.mem_of_getElem? hv))
  have P1 := fadd_ok (hv _ _ hia) (hgt_bd he) (by omega)
  have bdq := hidA (hv _ _ hib)
  have bdp := hidA P1.2
  have q1 := fun (w : World) => run_float_arith (P := Try.prog) w .add 71 .f32 _ _ _ P1.1
  have Hv := hidA hv
  have Hr := hidA hr
  have Ha := hidA hia
  have Hb := hidA hib
  have Hl := hidA hl
  have Hn := hidA hn
  have Hs := hidA hs
  have Hla := hidA (show ∀ k, k ≤ n → InR X Y W H (linePt ax ay bx by' n k).1 (linePt ax ay bx by' n k).2 from fun k hk => line_in hia hib hk)
  have bd : (-4194304 ≤ ax ∧ ax ≤ 4194304) ∧ (-4194304 ≤ ay ∧ ay ≤ 4194304) ∧ (-4194304 ≤ bx ∧ bx ≤ 4194304) ∧ (-4194304 ≤ by' ∧ by' ≤ 4194304) := by
    unfold RegOk at hr
    unfold InR at hia hib
    omega
  obtain ⟨bd1, bd2, bd3, bd4⟩ := bd
  have hmx : -(n : Int) ≤ bx - ax ∧ bx - ax ≤ n ∧ -(n : Int) ≤ by' - ay ∧ by' - ay ≤ n := by
    have := max4_bd hs
    omega
  clear hv P1 hr hia hib hl hn hs hh he
  go_enter Try.func129, Try.ntmps129
  go_wp2_with fail
  refine (steps_any _ _ _ _ _ (by omega) (by omega) (by omega) (by omega)).mono ?_
  rw [Hs.out]
  rintro e w1 ⟨rfl, hb1⟩
  have hB0 : Bk w1 w.heap.size 48 #[.int .i64 X, .int .i64 Y, .int .i64 W, .int .i64 H, .slice A m c] := (((Bk.new' rfl).alloc _).alloc _).ext hb1
  have hB1 : Bk w1 (w.heap.size + 1) 31 #[.int .i64 ax, .int .i64 ay] := ((Bk.new' (by simp)).alloc _).ext hb1
  have hB2 : Bk w1 (w.heap.size + 1 + 1) 31 #[.int .i64 bx, .int .i64 by'] := (Bk.new' (by simp)).ext hb1
  have hx1 : Ext w w1 := ((((Ext.refl w).alloc _).alloc _).alloc _).trans hb1
  go_wp2_with fail
  have s0 : ∀ w', Ext w1 w' → w'.cell? ⟨w.heap.size, 0, none⟩ = some (.int .i64 X) := fun w' h => (hB0.ext h).cell 0
  have s1 : ∀ w', Ext w1 w' → w'.cell? ⟨w.heap.size, 1, none⟩ = some (.int .i64 Y) := fun w' h => (hB0.ext h).cell 1
  have s2 : ∀ w', Ext w1 w' → w'.cell? ⟨w.heap.size, 2, none⟩ = some (.int .i64 W) := fun w' h => (hB0.ext h).cell 2
  have s3 : ∀ w', Ext w1 w' → w'.cell? ⟨w.heap.size, 3, none⟩ = some (.int .i64 H) := fun w' h => (hB0.ext h).cell 3
  have s4 : ∀ w', Ext w1 w' → w'.cell? ⟨w.heap.size, 4, none⟩ = some (.slice A m c) := fun w' h => (hB0.ext h).cell 4
  have s5 : ∀ w', Ext w1 w' → w'.cell? ⟨w.heap.size + 1, 0, none⟩ = some (.int .i64 ax) := fun w' h => (hB1.ext h).cell 0
  have s6 : ∀ w', Ext w1 w' → w'.cell? ⟨w.heap.size + 1, 1, none⟩ = some (.int .i64 ay) := fun w' h => (hB1.ext h).cell 1
  have s7 : ∀ w', Ext w1 w' → w'.cell? ⟨w.heap.size + 1 + 1, 0, none⟩ = some (.int .i64 bx) := fun w' h => (hB2.ext h).cell 0
  have s8 : ∀ w', Ext w1 w' → w'.cell? ⟨w.heap.size + 1 + 1, 1, none⟩ = some (.int .i64 by') := fun w' h => (hB2.ext h).cell 1
  have hD : ∀ w', Ext w1 w' → Rd w' A (flt l) := fun w' h => hd.ext (hx1.trans h)
  refine wp_region_noPanic ?_
  refine wp_region_held_drew (S := fun w' => Ext w1 w') (by kernel_rfl) ?_ (fun hHeld => ?_)
  · (repeat (first | exact Ext.refl _ | assumption | refine Ext.setCell ?_ (by first | (simp; done) | (simp; omega)) _ | refine Ext.drewN ?_ _ | refine Ext.alloc ?_ _ | refine Ext.drew ?_ | refine Ext.trans ?_ (by assumption)))
  refine wpAnyH_take (i := 0) (oi := ?o1x0) (v := ?v1x0) ?hi1x0 (by kernel_rfl) ?hf1x0 ?hr1x0 (fun _ _ _ h => h) ?hy1x0 (by assumption) ?rest1x0
  case hi1x0 => (simp only [List.getElem?_toArray, List.getElem?_cons_zero]; exact rfl)
  case hf1x0 => kernel_rfl
  case hr1x0 => kernel_rfl
  case hy1x0 => (refine Or.inl ⟨by rfl, ?_⟩; intro w hSw; (try dsimp only at hSw); go_simp; try with_reducible rfl)
  simp only [put_mk, List.set_cons_succ, List.set_cons_zero]
  refine wpAnyH_take (i := 1) (oi := ?o1x1) (v := ?v1x1) ?hi1x1 (by kernel_rfl) ?hf1x1 ?hr1x1 (fun _ _ _ h => h) ?hy1x1 (by assumption) ?rest1x1
  case hi1x1 => (simp only [List.getElem?_toArray, List.getElem?_cons_succ, List.getElem?_cons_zero]; exact rfl)
  case hf1x1 => kernel_rfl
  case hr1x1 => kernel_rfl
  case hy1x1 => (refine Or.inl ⟨by rfl, ?_⟩; intro w hSw; (try dsimp only at hSw); go_simp; try with_reducible rfl)
  simp only [put_mk, List.set_cons_succ, List.set_cons_zero]
  refine wpAnyH_take (i := 3) (oi := ?o1x3) (v := ?v1x3) ?hi1x3 (by kernel_rfl) ?hf1x3 ?hr1x3 (fun _ _ _ h => h) ?hy1x3 (by assumption) ?rest1x3
  case hi1x3 => (simp only [List.getElem?_toArray, List.getElem?_cons_succ, List.getElem?_cons_zero]; exact rfl)
  case hf1x3 => kernel_rfl
  case hr1x3 => kernel_rfl
  case hy1x3 => (refine Or.inl ⟨by rfl, ?_⟩; intro w hSw; (try dsimp only at hSw); go_simp; try with_reducible rfl)
  simp only [put_mk, List.set_cons_succ, List.set_cons_zero]
  refine wpAnyH_take (i := 5) (oi := ?o1x5) (v := ?v1x5) ?hi1x5 (by kernel_rfl) ?hf1x5 ?hr1x5 (fun _ _ _ h => h) ?hy1x5 (by assumption) ?rest1x5
  case hi1x5 => (simp only [List.getElem?_toArray, List.getElem?_cons_succ, List.getElem?_cons_zero]; exact rfl)
  case hf1x5 => kernel_rfl
  case hr1x5 => kernel_rfl
  case hy1x5 => (refine Or.inl ⟨by rfl, ?_⟩; intro w hSw; (try dsimp only at hSw); go_simp; try with_reducible rfl)
  simp only [put_mk, List.set_cons_succ, List.set_cons_zero]
  refine wpAnyH_take (i := 6) (oi := ?o1x6) (v := ?v1x6) ?hi1x6 (by kernel_rfl) ?hf1x6 ?hr1x6 (fun _ _ _ h => h) ?hy1x6 (by assumption) ?rest1x6
  case hi1x6 => (simp only [List.getElem?_toArray, List.getElem?_cons_succ, List.getElem?_cons_zero]; exact rfl)
  case hf1x6 => kernel_rfl
  case hr1x6 => kernel_rfl
  case hy1x6 => (refine Or.inl ⟨by rfl, ?_⟩; intro w hSw; (try dsimp only at hSw); go_simp; try with_reducible rfl)
  simp only [put_mk, List.set_cons_succ, List.set_cons_zero]
  refine wpAnyH_ready (rs := [2]) (by kernel_rfl) (by simp) ?_
  refine AllReadyH.cons (o := ?o1x2) ?hi1x2 (fun K hK => ?_) AllReadyH.nil
  case hi1x2 => (simp only [List.getElem?_toArray, List.getElem?_cons_succ, List.getElem?_cons_zero]; exact rfl)
  go_simp
  refine (at_in _ _ _ _ _ _ _ _ _ _ _ Hr.out Ha.out Hl.out Hn.out (hD _ ?_)).mono ?_
  · (repeat (first | exact Ext.refl _ | assumption | refine Ext.setCell ?_ (by first | (simp; done) | (simp; omega)) _ | refine Ext.drewN ?_ _ | refine Ext.alloc ?_ _ | refine Ext.drew ?_ | refine Ext.trans ?_ (by assumption)))
  rintro e w6 ⟨rfl, hb6⟩
  refine hK.out _ _ ?_ (fun hHeld => ?_)
  · (repeat (first | exact Ext.refl _ | assumption | refine Ext.setCell ?_ (by first | (simp; done) | (simp; omega)) _ | refine Ext.drewN ?_ _ | refine Ext.alloc ?_ _ | refine Ext.drew ?_ | refine Ext.trans ?_ (by assumption)))
  clear hK K
  refine wpAnyH_take (i := 4) (oi := ?o1x4) (v := ?v1x4) ?hi1x4 (by kernel_rfl) ?hf1x4 ?hr1x4 (fun _ _ _ h => h) ?hy1x4 (by assumption) ?rest1x4
  case hi1x4 => (simp only [List.getElem?_toArray, List.getElem?_cons_succ, List.getElem?_cons_zero]; exact rfl)
  case hf1x4 => kernel_rfl
  case hr1x4 => kernel_rfl
  case hy1x4 => (refine Or.inl ⟨by rfl, ?_⟩; intro w hSw; (try dsimp only at hSw); go_simp; try with_reducible rfl)
  simp only [put_mk, List.set_cons_succ, List.set_cons_zero]
  refine wpAnyH_ready (rs := [7]) (by kernel_rfl) (by simp) ?_
  refine AllReadyH.cons (o := ?o1x7) ?hi1x7 (fun K hK => ?_) AllReadyH.nil
  case hi1x7 => (simp only [List.getElem?_toArray, List.getElem?_cons_succ, List.getElem?_cons_zero]; exact rfl)
  go_simp
  refine (at_in _ _ _ _ _ _ _ _ _ _ _ Hr.out Hb.out Hl.out Hn.out (hD _ ?_)).mono ?_
  · (repeat (first | exact Ext.refl _ | assumption | refine Ext.setCell ?_ (by first | (simp; done) | (simp; omega)) _ | refine Ext.drewN ?_ _ | refine Ext.alloc ?_ _ | refine Ext.drew ?_ | refine Ext.trans ?_ (by assumption)))
  rintro e w7 ⟨rfl, hb7⟩
  refine hK.out _ _ ?_ (fun hHeld => ?_)
  · (repeat (first | exact Ext.refl _ | assumption | refine Ext.setCell ?_ (by first | (simp; done) | (simp; omega)) _ | refine Ext.drewN ?_ _ | refine Ext.alloc ?_ _ | refine Ext.drew ?_ | refine Ext.trans ?_ (by assumption)))
  clear hK K
  refine wpAnyH_take (i := 8) (oi := ?o1x8) (v := ?v1x8) ?hi1x8 (by kernel_rfl) ?hf1x8 ?hr1x8 (fun _ _ _ h => h) ?hy1x8 (by assumption) ?rest1x8
  case hi1x8 => (simp only [List.getElem?_toArray, List.getElem?_cons_succ, List.getElem?_cons_zero]; exact rfl)
  case hf1x8 => kernel_rfl
  case hr1x8 => kernel_rfl
  case hy1x8 => (refine Or.inl ⟨by rfl, ?_⟩; intro w hSw; (try dsimp only at hSw); go_simp; try with_reducible rfl)
  simp only [put_mk, List.set_cons_succ, List.set_cons_zero]
  refine wpAnyH_take (i := 9) (oi := ?o1x9) (v := ?v1x9) ?hi1x9 (by kernel_rfl) ?hf1x9 ?hr1x9 (fun _ _ _ h => h) ?hy1x9 (by assumption) ?rest1x9
  case hi1x9 => (simp only [List.getElem?_toArray, List.getElem?_cons_succ, List.getElem?_cons_zero]; exact rfl)
  case hf1x9 => kernel_rfl
  case hr1x9 => kernel_rfl
  case hy1x9 => (refine Or.inl ⟨by rfl, ?_⟩; intro w hSw; (try dsimp only at hSw); go_simp; try with_reducible rfl)
  simp only [put_mk, List.set_cons_succ, List.set_cons_zero]
  refine wpAnyH_done (by kernel_rfl) ?_ _
  refine NoPanic.normal ?_
  clear hd
  go_wp2_with fail
  go_loopw [12] (fun i wr => ∃ k : Nat, 1 ≤ k ∧ i = .int .i64 k ∧ Open X Y W l ax ay bx by' (fadd (valAt X Y W l (ax, ay)) eye) (valAt X Y W l (bx, by')) n k ∧ Ext w1 wr) (fun i _ => n - (intOf i).toNat)
  case atStart => exact ⟨1, by omega, rfl, fun i h1 h2 => by omega, (by repeat (first | exact Ext.refl _ | assumption | refine Ext.setCell ?_ (by first | (simp; done) | (simp; omega)) _ | refine Ext.drewN ?_ _ | refine Ext.alloc ?_ _ | refine Ext.drew ?_ | refine Ext.trans ?_ (by assumption)))⟩
  case round =>
    obtain ⟨k, hk1, rfl, hop, hx⟩ := hrel
    have Hop := hidA hop
    clear hop
    by_cases hlt : k < n
    · have Hp := hidA (Hla.out k (by omega))
      have hm := mul_bd (i := k) (d := bx - ax) (n := n) (by omega) (by omega) (by omega)
      have hm' := mul_bd (i := k) (d := by' - ay) (n := n) (by omega) (by omega) (by omega)
      obtain ⟨hm1, hm2⟩ := hm
      obtain ⟨hm3, hm4⟩ := hm'
      have hR := ratio_ok (i := k) (n := n) (by omega) (by omega) (by omega)
      have hM := mix_ok bdp.out bdq.out hR.2
      have Q0 := fun (w : World) => run_float_arith (P := Try.prog) w .quo 71 .f32 _ _ _ hR.1
      have Q1 := hidA hM.1
      have Q2 := hidA hM.2.1
      have Q3 := hidA hM.2.2.1
      clear hR hM
      have t0 : ∀ w', Ext wr w' → w'.cell? ⟨w.heap.size, 0, none⟩ = some (.int .i64 X) := fun w' h => s0 _ (hx.trans h)
      have t1 : ∀ w', Ext wr w' → w'.cell? ⟨w.heap.size, 1, none⟩ = some (.int .i64 Y) := fun w' h => s1 _ (hx.trans h)
      have t2 : ∀ w', Ext wr w' → w'.cell? ⟨w.heap.size, 2, none⟩ = some (.int .i64 W) := fun w' h => s2 _ (hx.trans h)
      have t3 : ∀ w', Ext wr w' → w'.cell? ⟨w.heap.size, 3, none⟩ = some (.int .i64 H) := fun w' h => s3 _ (hx.trans h)
      have t4 : ∀ w', Ext wr w' → w'.cell? ⟨w.heap.size, 4, none⟩ = some (.slice A m c) := fun w' h => s4 _ (hx.trans h)
      have t5 : ∀ w', Ext wr w' → w'.cell? ⟨w.heap.size + 1, 0, none⟩ = some (.int .i64 ax) := fun w' h => s5 _ (hx.trans h)
      have t6 : ∀ w', Ext wr w' → w'.cell? ⟨w.heap.size + 1, 1, none⟩ = some (.int .i64 ay) := fun w' h => s6 _ (hx.trans h)
      have t7 : ∀ w', Ext wr w' → w'.cell? ⟨w.heap.size + 1 + 1, 0, none⟩ = some (.int .i64 bx) := fun w' h => s7 _ (hx.trans h)
      have t8 : ∀ w', Ext wr w' → w'.cell? ⟨w.heap.size + 1 + 1, 1, none⟩ = some (.int .i64 by') := fun w' h => s8 _ (hx.trans h)
      have hE : ∀ w', Ext wr w' → Rd w' A (flt l) := fun w' h => hD _ (hx.trans h)
      clear s0 s1 s2 s3 s4 s5 s6 s7 s8 hD
      go_wp2_with fail
      by_cases hblk : blockB X Y W l ax ay bx by' (fadd (valAt X Y W l (ax, ay)) eye) (valAt X Y W l (bx, by')) n k = true
      · have C0 : (FloatKind.f32.format.order (valAt X Y W l (linePt ax ay bx by' n k)) (mixF (fadd (valAt X Y W l (ax, ay)) eye) (valAt X Y W l (bx, by')) (ratio k n)) == some .gt) = true := hblk
        have HB := hidA hblk
        clear hblk
        refine wp_region_noPanic ?_
        refine wp_region_held_drew (S := fun w' => Ext wr w') (by kernel_rfl) ?_ (fun hHeld => ?_)
        · (repeat (first | exact Ext.refl _ | assumption | refine Ext.setCell ?_ (by first | (simp; done) | (simp; omega)) _ | refine Ext.drewN ?_ _ | refine Ext.alloc ?_ _ | refine Ext.drew ?_ | refine Ext.trans ?_ (by assumption)))
        refine wpAnyH_take (i := 0) (oi := ?o2x0) (v := ?v2x0) ?hi2x0 (by kernel_rfl) ?hf2x0 ?hr2x0 (fun _ _ _ h => h) ?hy2x0 (by assumption) ?rest2x0
        case hi2x0 => (simp only [List.getElem?_toArray, List.getElem?_cons_zero]; exact rfl)
        case hf2x0 => kernel_rfl
        case hr2x0 => kernel_rfl
        case hy2x0 => (refine Or.inl ⟨by rfl, ?_⟩; intro w hSw; (try dsimp only at hSw); go_simp; try with_reducible rfl)
        simp only [put_mk, List.set_cons_succ, List.set_cons_zero]
        refine wpAnyH_take (i := 1) (oi := ?o2x1) (v := ?v2x1) ?hi2x1 (by kernel_rfl) ?hf2x1 ?hr2x1 (fun _ _ _ h => h) ?hy2x1 (by assumption) ?rest2x1
        case hi2x1 => (simp only [List.getElem?_toArray, List.getElem?_cons_succ, List.getElem?_cons_zero]; exact rfl)
        case hf2x1 => kernel_rfl
        case hr2x1 => kernel_rfl
        case hy2x1 => (refine Or.inl ⟨by rfl, ?_⟩; intro w hSw; (try dsimp only at hSw); go_simp; try with_reducible rfl)
        simp only [put_mk, List.set_cons_succ, List.set_cons_zero]
        refine wpAnyH_take (i := 2) (oi := ?o2x2) (v := ?v2x2) ?hi2x2 (by kernel_rfl) ?hf2x2 ?hr2x2 (fun _ _ _ h => h) ?hy2x2 (by assumption) ?rest2x2
        case hi2x2 => (simp only [List.getElem?_toArray, List.getElem?_cons_succ, List.getElem?_cons_zero]; exact rfl)
        case hf2x2 => kernel_rfl
        case hr2x2 => kernel_rfl
        case hy2x2 => (refine Or.inl ⟨by rfl, ?_⟩; intro w hSw; (try dsimp only at hSw); go_simp; try with_reducible rfl)
        simp only [put_mk, List.set_cons_succ, List.set_cons_zero]
        refine wpAnyH_take (i := 3) (oi := ?o2x3) (v := ?v2x3) ?hi2x3 (by kernel_rfl) ?hf2x3 ?hr2x3 (fun _ _ _ h => h) ?hy2x3 (by assumption) ?rest2x3
        case hi2x3 => (simp only [List.getElem?_toArray, List.getElem?_cons_succ, List.getElem?_cons_zero]; exact rfl)
        case hf2x3 => kernel_rfl
        case hr2x3 => kernel_rfl
        case hy2x3 => (refine Or.inl ⟨by rfl, ?_⟩; intro w hSw; (try dsimp only at hSw); go_simp; try with_reducible rfl)
        simp only [put_mk, List.set_cons_succ, List.set_cons_zero]
        refine wpAnyH_take (i := 4) (oi := ?o2x4) (v := ?v2x4) ?hi2x4 (by kernel_rfl) ?hf2x4 ?hr2x4 (fun _ _ _ h => h) ?hy2x4 (by assumption) ?rest2x4
        case hi2x4 => (simp only [List.getElem?_toArray, List.getElem?_cons_succ, List.getElem?_cons_zero]; exact rfl)
        case hf2x4 => kernel_rfl
        case hr2x4 => kernel_rfl
        case hy2x4 => (refine Or.inl ⟨by rfl, ?_⟩; intro w hSw; (try dsimp only at hSw); go_simp; try with_reducible rfl)
        simp only [put_mk, List.set_cons_succ, List.set_cons_zero]
        refine wpAnyH_take (i := 7) (oi := ?o2x7) (v := ?v2x7) ?hi2x7 (by kernel_rfl) ?hf2x7 ?hr2x7 (fun _ _ _ h => h) ?hy2x7 (by assumption) ?rest2x7
        case hi2x7 => (simp only [List.getElem?_toArray, List.getElem?_cons_succ, List.getElem?_cons_zero]; exact rfl)
        case hf2x7 => kernel_rfl
        case hr2x7 => kernel_rfl
        case hy2x7 => (refine Or.inl ⟨by rfl, ?_⟩; intro w hSw; (try dsimp only at hSw); go_simp; try with_reducible rfl)
        simp only [put_mk, List.set_cons_succ, List.set_cons_zero]
        refine wpAnyH_take (i := 8) (oi := ?o2x8) (v := ?v2x8) ?hi2x8 (by kernel_rfl) ?hf2x8 ?hr2x8 (fun _ _ _ h => h) ?hy2x8 (by assumption) ?rest2x8
        case hi2x8 => (simp only [List.getElem?_toArray, List.getElem?_cons_succ, List.getElem?_cons_zero]; exact rfl)
        case hf2x8 => kernel_rfl
        case hr2x8 => kernel_rfl
        case hy2x8 => (refine Or.inl ⟨by rfl, ?_⟩; intro w hSw; (try dsimp only at hSw); go_simp; try with_reducible rfl)
        simp only [put_mk, List.set_cons_succ, List.set_cons_zero]
        refine wpAnyH_take (i := 9) (oi := ?o2x9) (v := ?v2x9) ?hi2x9 (by kernel_rfl) ?hf2x9 ?hr2x9 (fun _ _ _ h => h) ?hy2x9 (by assumption) ?rest2x9
        case hi2x9 => (simp only [List.getElem?_toArray, List.getElem?_cons_succ, List.getElem?_cons_zero]; exact rfl)
        case hf2x9 => kernel_rfl
        case hr2x9 => kernel_rfl
        case hy2x9 => (refine Or.inl ⟨by rfl, ?_⟩; intro w hSw; (try dsimp only at hSw); go_simp; try with_reducible rfl)
        simp only [put_mk, List.set_cons_succ, List.set_cons_zero]
        refine wpAnyH_take (i := 10) (oi := ?o2x10) (v := ?v2x10) ?hi2x10 (by kernel_rfl) ?hf2x10 ?hr2x10 (fun _ _ _ h => h) ?hy2x10 (by assumption) ?rest2x10
        case hi2x10 => (simp only [List.getElem?_toArray, List.getElem?_cons_succ, List.getElem?_cons_zero]; exact rfl)
        case hf2x10 => kernel_rfl
        case hr2x10 => kernel_rfl
        case hy2x10 => (refine Or.inl ⟨by rfl, ?_⟩; intro w hSw; (try dsimp only at hSw); go_simp; try with_reducible rfl)
        simp only [put_mk, List.set_cons_succ, List.set_cons_zero]
        refine wpAnyH_take (i := 11) (oi := ?o2x11) (v := ?v2x11) ?hi2x11 (by kernel_rfl) ?hf2x11 ?hr2x11 (fun _ _ _ h => h) ?hy2x11 (by assumption) ?rest2x11
        case hi2x11 => (simp only [List.getElem?_toArray, List.getElem?_cons_succ, List.getElem?_cons_zero]; exact rfl)
        case hf2x11 => kernel_rfl
        case hr2x11 => kernel_rfl
        case hy2x11 => (refine Or.inl ⟨by rfl, ?_⟩; intro w hSw; (try dsimp only at hSw); go_simp; try with_reducible rfl)
        simp only [put_mk, List.set_cons_succ, List.set_cons_zero]
        refine wpAnyH_take (i := 12) (oi := ?o2x12) (v := ?v2x12) ?hi2x12 (by kernel_rfl) ?hf2x12 ?hr2x12 (fun _ _ _ h => h) ?hy2x12 (by assumption) ?rest2x12
        case hi2x12 => (simp only [List.getElem?_toArray, List.getElem?_cons_succ, List.getElem?_cons_zero]; exact rfl)
        case hf2x12 => kernel_rfl
        case hr2x12 => kernel_rfl
        case hy2x12 => (refine Or.inl ⟨by rfl, ?_⟩; intro w hSw; (try dsimp only at hSw); go_simp; try with_reducible rfl)
        simp only [put_mk, List.set_cons_succ, List.set_cons_zero]
        refine wpAnyH_take (i := 13) (oi := ?o2x13) (v := ?v2x13) ?hi2x13 (by kernel_rfl) ?hf2x13 ?hr2x13 (fun _ _ _ h => h) ?hy2x13 (by assumption) ?rest2x13
        case hi2x13 => (simp only [List.getElem?_toArray, List.getElem?_cons_succ, List.getElem?_cons_zero]; exact rfl)
        case hf2x13 => kernel_rfl
        case hr2x13 => kernel_rfl
        case hy2x13 => (refine Or.inl ⟨by rfl, ?_⟩; intro w hSw; (try dsimp only at hSw); go_simp; try with_reducible rfl)
        simp only [put_mk, List.set_cons_succ, List.set_cons_zero]
        refine wpAnyH_ready (rs := [5]) (by kernel_rfl) (by simp) ?_
        refine AllReadyH.cons (o := ?o2x5) ?hi2x5 (fun K hK => ?_) AllReadyH.nil
        case hi2x5 => (simp only [List.getElem?_toArray, List.getElem?_cons_succ, List.getElem?_cons_zero]; exact rfl)
        go_simp
        refine (between_any ax ay bx by' k n _ bd1 bd2 bd3 bd4 (by omega) (by omega) hm1 hm2 hm3 hm4).mono ?_
        rintro e w6 ⟨rfl, hb6⟩
        refine hK.out _ _ ?_ (fun hHeld => ?_)
        · (repeat (first | exact Ext.refl _ | assumption | refine Ext.setCell ?_ (by first | (simp; done) | (simp; omega)) _ | refine Ext.drewN ?_ _ | refine Ext.alloc ?_ _ | refine Ext.drew ?_ | refine Ext.trans ?_ (by assumption)))
        clear hK K
        refine wpAnyH_ready (rs := [6]) (by kernel_rfl) (by simp) ?_
        refine AllReadyH.cons (o := ?o2x6) ?hi2x6 (fun K hK => ?_) AllReadyH.nil
        case hi2x6 => (simp only [List.getElem?_toArray, List.getElem?_cons_succ, List.getElem?_cons_zero]; exact rfl)
        go_simp
        refine (at_in _ _ _ _ _ _ _ _ _ _ _ Hr.out Hp.out Hl.out Hn.out (hE _ ?_)).mono ?_
        · (repeat (first | exact Ext.refl _ | assumption | refine Ext.setCell ?_ (by first | (simp; done) | (simp; omega)) _ | refine Ext.drewN ?_ _ | refine Ext.alloc ?_ _ | refine Ext.drew ?_ | refine Ext.trans ?_ (by assumption)))
        rintro e w7 ⟨rfl, hb7⟩
        refine hK.out _ _ ?_ (fun hHeld => ?_)
        · (repeat (first | exact Ext.refl _ | assumption | refine Ext.setCell ?_ (by first | (simp; done) | (simp; omega)) _ | refine Ext.drewN ?_ _ | refine Ext.alloc ?_ _ | refine Ext.drew ?_ | refine Ext.trans ?_ (by assumption)))
        clear hK K
        refine wpAnyH_ready (rs := [14]) (by kernel_rfl) (by simp) ?_
        refine AllReadyH.cons (o := ?o2x14) ?hi2x14 (fun K hK => ?_) AllReadyH.nil
        case hi2x14 => (simp only [List.getElem?_toArray, List.getElem?_cons_succ, List.getElem?_cons_zero]; exact rfl)
        go_simp
        refine (mix_any _ _ _ _ _ _ _ Q1.out Q2.out Q3.out).mono ?_
        rintro e w' ⟨rfl, rfl⟩
        refine hK.out _ _ ?_ (fun hHeld => ?_)
        · (repeat (first | exact Ext.refl _ | assumption | refine Ext.setCell ?_ (by first | (simp; done) | (simp; omega)) _ | refine Ext.drewN ?_ _ | refine Ext.alloc ?_ _ | refine Ext.drew ?_ | refine Ext.trans ?_ (by assumption)))
        clear hK K
        refine wpAnyH_take (i := 15) (oi := ?o2x15) (v := ?v2x15) ?hi2x15 (by kernel_rfl) ?hf2x15 ?hr2x15 (fun _ _ _ h => h) ?hy2x15 (by assumption) ?rest2x15
        case hi2x15 => (simp only [List.getElem?_toArray, List.getElem?_cons_succ, List.getElem?_cons_zero]; exact rfl)
        case hf2x15 => kernel_rfl
        case hr2x15 => kernel_rfl
        case hy2x15 => (refine Or.inl ⟨by rfl, ?_⟩; intro w hSw; (try dsimp only at hSw); go_simp; try with_reducible rfl)
        simp only [put_mk, List.set_cons_succ, List.set_cons_zero]
        refine wpAnyH_done (by kernel_rfl) ?_ _
        refine NoPanic.normal ?_
        go_wp2
        go_ret
        exact ⟨ret_b (sees_no hk1 hlt HB.out).symm, (by repeat (first | exact Ext.refl _ | assumption | refine Ext.setCell ?_ (by first | (simp; done) | (simp; omega)) _ | refine Ext.drewN ?_ _ | refine Ext.alloc ?_ _ | refine Ext.drew ?_ | refine Ext.trans ?_ (by assumption)))⟩
      · have C0 : (FloatKind.f32.format.order (valAt X Y W l (linePt ax ay bx by' n k)) (mixF (fadd (valAt X Y W l (ax, ay)) eye) (valAt X Y W l (bx, by')) (ratio k n)) == some .gt) = false := (Bool.not_eq_true _).mp hblk
        have HB : Hid (blockB X Y W l ax ay bx by' (fadd (valAt X Y W l (ax, ay)) eye) (valAt X Y W l (bx, by')) n k = false) := by show _ = _; simpa using hblk
        clear hblk
        refine wp_region_noPanic ?_
        refine wp_region_held_drew (S := fun w' => Ext wr w') (by kernel_rfl) ?_ (fun hHeld => ?_)
        · (repeat (first | exact Ext.refl _ | assumption | refine Ext.setCell ?_ (by first | (simp; done) | (simp; omega)) _ | refine Ext.drewN ?_ _ | refine Ext.alloc ?_ _ | refine Ext.drew ?_ | refine Ext.trans ?_ (by assumption)))
        refine wpAnyH_take (i := 0) (oi := ?o3x0) (v := ?v3x0) ?hi3x0 (by kernel_rfl) ?hf3x0 ?hr3x0 (fun _ _ _ h => h) ?hy3x0 (by assumption) ?rest3x0
        case hi3x0 => (simp only [List.getElem?_toArray, List.getElem?_cons_zero]; exact rfl)
        case hf3x0 => kernel_rfl
        case hr3x0 => kernel_rfl
        case hy3x0 => (refine Or.inl ⟨by rfl, ?_⟩; intro w hSw; (try dsimp only at hSw); go_simp; try with_reducible rfl)
        simp only [put_mk, List.set_cons_succ, List.set_cons_zero]
        refine wpAnyH_take (i := 1) (oi := ?o3x1) (v := ?v3x1) ?hi3x1 (by kernel_rfl) ?hf3x1 ?hr3x1 (fun _ _ _ h => h) ?hy3x1 (by assumption) ?rest3x1
        case hi3x1 => (simp only [List.getElem?_toArray, List.getElem?_cons_succ, List.getElem?_cons_zero]; exact rfl)
        case hf3x1 => kernel_rfl
        case hr3x1 => kernel_rfl
        case hy3x1 => (refine Or.inl ⟨by rfl, ?_⟩; intro w hSw; (try dsimp only at hSw); go_simp; try with_reducible rfl)
        simp only [put_mk, List.set_cons_succ, List.set_cons_zero]
        refine wpAnyH_take (i := 2) (oi := ?o3x2) (v := ?v3x2) ?hi3x2 (by kernel_rfl) ?hf3x2 ?hr3x2 (fun _ _ _ h => h) ?hy3x2 (by assumption) ?rest3x2
        case hi3x2 => (simp only [List.getElem?_toArray, List.getElem?_cons_succ, List.getElem?_cons_zero]; exact rfl)
        case hf3x2 => kernel_rfl
        case hr3x2 => kernel_rfl
        case hy3x2 => (refine Or.inl ⟨by rfl, ?_⟩; intro w hSw; (try dsimp only at hSw); go_simp; try with_reducible rfl)
        simp only [put_mk, List.set_cons_succ, List.set_cons_zero]
        refine wpAnyH_take (i := 3) (oi := ?o3x3) (v := ?v3x3) ?hi3x3 (by kernel_rfl) ?hf3x3 ?hr3x3 (fun _ _ _ h => h) ?hy3x3 (by assumption) ?rest3x3
        case hi3x3 => (simp only [List.getElem?_toArray, List.getElem?_cons_succ, List.getElem?_cons_zero]; exact rfl)
        case hf3x3 => kernel_rfl
        case hr3x3 => kernel_rfl
        case hy3x3 => (refine Or.inl ⟨by rfl, ?_⟩; intro w hSw; (try dsimp only at hSw); go_simp; try with_reducible rfl)
        simp only [put_mk, List.set_cons_succ, List.set_cons_zero]
        refine wpAnyH_take (i := 4) (oi := ?o3x4) (v := ?v3x4) ?hi3x4 (by kernel_rfl) ?hf3x4 ?hr3x4 (fun _ _ _ h => h) ?hy3x4 (by assumption) ?rest3x4
        case hi3x4 => (simp only [List.getElem?_toArray, List.getElem?_cons_succ, List.getElem?_cons_zero]; exact rfl)
        case hf3x4 => kernel_rfl
        case hr3x4 => kernel_rfl
        case hy3x4 => (refine Or.inl ⟨by rfl, ?_⟩; intro w hSw; (try dsimp only at hSw); go_simp; try with_reducible rfl)
        simp only [put_mk, List.set_cons_succ, List.set_cons_zero]
        refine wpAnyH_take (i := 7) (oi := ?o3x7) (v := ?v3x7) ?hi3x7 (by kernel_rfl) ?hf3x7 ?hr3x7 (fun _ _ _ h => h) ?hy3x7 (by assumption) ?rest3x7
        case hi3x7 => (simp only [List.getElem?_toArray, List.getElem?_cons_succ, List.getElem?_cons_zero]; exact rfl)
        case hf3x7 => kernel_rfl
        case hr3x7 => kernel_rfl
        case hy3x7 => (refine Or.inl ⟨by rfl, ?_⟩; intro w hSw; (try dsimp only at hSw); go_simp; try with_reducible rfl)
        simp only [put_mk, List.set_cons_succ, List.set_cons_zero]
        refine wpAnyH_take (i := 8) (oi := ?o3x8) (v := ?v3x8) ?hi3x8 (by kernel_rfl) ?hf3x8 ?hr3x8 (fun _ _ _ h => h) ?hy3x8 (by assumption) ?rest3x8
        case hi3x8 => (simp only [List.getElem?_toArray, List.getElem?_cons_succ, List.getElem?_cons_zero]; exact rfl)
        case hf3x8 => kernel_rfl
        case hr3x8 => kernel_rfl
        case hy3x8 => (refine Or.inl ⟨by rfl, ?_⟩; intro w hSw; (try dsimp only at hSw); go_simp; try with_reducible rfl)
        simp only [put_mk, List.set_cons_succ, List.set_cons_zero]
        refine wpAnyH_take (i := 9) (oi := ?o3x9) (v := ?v3x9) ?hi3x9 (by kernel_rfl) ?hf3x9 ?hr3x9 (fun _ _ _ h => h) ?hy3x9 (by assumption) ?rest3x9
        case hi3x9 => (simp only [List.getElem?_toArray, List.getElem?_cons_succ, List.getElem?_cons_zero]; exact rfl)
        case hf3x9 => kernel_rfl
        case hr3x9 => kernel_rfl
        case hy3x9 => (refine Or.inl ⟨by rfl, ?_⟩; intro w hSw; (try dsimp only at hSw); go_simp; try with_reducible rfl)
        simp only [put_mk, List.set_cons_succ, List.set_cons_zero]
        refine wpAnyH_take (i := 10) (oi := ?o3x10) (v := ?v3x10) ?hi3x10 (by kernel_rfl) ?hf3x10 ?hr3x10 (fun _ _ _ h => h) ?hy3x10 (by assumption) ?rest3x10
        case hi3x10 => (simp only [List.getElem?_toArray, List.getElem?_cons_succ, List.getElem?_cons_zero]; exact rfl)
        case hf3x10 => kernel_rfl
        case hr3x10 => kernel_rfl
        case hy3x10 => (refine Or.inl ⟨by rfl, ?_⟩; intro w hSw; (try dsimp only at hSw); go_simp; try with_reducible rfl)
        simp only [put_mk, List.set_cons_succ, List.set_cons_zero]
        refine wpAnyH_take (i := 11) (oi := ?o3x11) (v := ?v3x11) ?hi3x11 (by kernel_rfl) ?hf3x11 ?hr3x11 (fun _ _ _ h => h) ?hy3x11 (by assumption) ?rest3x11
        case hi3x11 => (simp only [List.getElem?_toArray, List.getElem?_cons_succ, List.getElem?_cons_zero]; exact rfl)
        case hf3x11 => kernel_rfl
        case hr3x11 => kernel_rfl
        case hy3x11 => (refine Or.inl ⟨by rfl, ?_⟩; intro w hSw; (try dsimp only at hSw); go_simp; try with_reducible rfl)
        simp only [put_mk, List.set_cons_succ, List.set_cons_zero]
        refine wpAnyH_take (i := 12) (oi := ?o3x12) (v := ?v3x12) ?hi3x12 (by kernel_rfl) ?hf3x12 ?hr3x12 (fun _ _ _ h => h) ?hy3x12 (by assumption) ?rest3x12
        case hi3x12 => (simp only [List.getElem?_toArray, List.getElem?_cons_succ, List.getElem?_cons_zero]; exact rfl)
        case hf3x12 => kernel_rfl
        case hr3x12 => kernel_rfl
        case hy3x12 => (refine Or.inl ⟨by rfl, ?_⟩; intro w hSw; (try dsimp only at hSw); go_simp; try with_reducible rfl)
        simp only [put_mk, List.set_cons_succ, List.set_cons_zero]
        refine wpAnyH_take (i := 13) (oi := ?o3x13) (v := ?v3x13) ?hi3x13 (by kernel_rfl) ?hf3x13 ?hr3x13 (fun _ _ _ h => h) ?hy3x13 (by assumption) ?rest3x13
        case hi3x13 => (simp only [List.getElem?_toArray, List.getElem?_cons_succ, List.getElem?_cons_zero]; exact rfl)
        case hf3x13 => kernel_rfl
        case hr3x13 => kernel_rfl
        case hy3x13 => (refine Or.inl ⟨by rfl, ?_⟩; intro w hSw; (try dsimp only at hSw); go_simp; try with_reducible rfl)
        simp only [put_mk, List.set_cons_succ, List.set_cons_zero]
        refine wpAnyH_ready (rs := [5]) (by kernel_rfl) (by simp) ?_
        refine AllReadyH.cons (o := ?o3x5) ?hi3x5 (fun K hK => ?_) AllReadyH.nil
        case hi3x5 => (simp only [List.getElem?_toArray, List.getElem?_cons_succ, List.getElem?_cons_zero]; exact rfl)
        go_simp
        refine (between_any ax ay bx by' k n _ bd1 bd2 bd3 bd4 (by omega) (by omega) hm1 hm2 hm3 hm4).mono ?_
        rintro e w6 ⟨rfl, hb6⟩
        refine hK.out _ _ ?_ (fun hHeld => ?_)
        · (repeat (first | exact Ext.refl _ | assumption | refine Ext.setCell ?_ (by first | (simp; done) | (simp; omega)) _ | refine Ext.drewN ?_ _ | refine Ext.alloc ?_ _ | refine Ext.drew ?_ | refine Ext.trans ?_ (by assumption)))
        clear hK K
        refine wpAnyH_ready (rs := [6]) (by kernel_rfl) (by simp) ?_
        refine AllReadyH.cons (o := ?o3x6) ?hi3x6 (fun K hK => ?_) AllReadyH.nil
        case hi3x6 => (simp only [List.getElem?_toArray, List.getElem?_cons_succ, List.getElem?_cons_zero]; exact rfl)
        go_simp
        refine (at_in _ _ _ _ _ _ _ _ _ _ _ Hr.out Hp.out Hl.out Hn.out (hE _ ?_)).mono ?_
        · (repeat (first | exact Ext.refl _ | assumption | refine Ext.setCell ?_ (by first | (simp; done) | (simp; omega)) _ | refine Ext.drewN ?_ _ | refine Ext.alloc ?_ _ | refine Ext.drew ?_ | refine Ext.trans ?_ (by assumption)))
        rintro e w7 ⟨rfl, hb7⟩
        refine hK.out _ _ ?_ (fun hHeld => ?_)
        · (repeat (first | exact Ext.refl _ | assumption | refine Ext.setCell ?_ (by first | (simp; done) | (simp; omega)) _ | refine Ext.drewN ?_ _ | refine Ext.alloc ?_ _ | refine Ext.drew ?_ | refine Ext.trans ?_ (by assumption)))
        clear hK K
        refine wpAnyH_ready (rs := [14]) (by kernel_rfl) (by simp) ?_
        refine AllReadyH.cons (o := ?o3x14) ?hi3x14 (fun K hK => ?_) AllReadyH.nil
        case hi3x14 => (simp only [List.getElem?_toArray, List.getElem?_cons_succ, List.getElem?_cons_zero]; exact rfl)
        go_simp
        refine (mix_any _ _ _ _ _ _ _ Q1.out Q2.out Q3.out).mono ?_
        rintro e w' ⟨rfl, rfl⟩
        refine hK.out _ _ ?_ (fun hHeld => ?_)
        · (repeat (first | exact Ext.refl _ | assumption | refine Ext.setCell ?_ (by first | (simp; done) | (simp; omega)) _ | refine Ext.drewN ?_ _ | refine Ext.alloc ?_ _ | refine Ext.drew ?_ | refine Ext.trans ?_ (by assumption)))
        clear hK K
        refine wpAnyH_take (i := 15) (oi := ?o3x15) (v := ?v3x15) ?hi3x15 (by kernel_rfl) ?hf3x15 ?hr3x15 (fun _ _ _ h => h) ?hy3x15 (by assumption) ?rest3x15
        case hi3x15 => (simp only [List.getElem?_toArray, List.getElem?_cons_succ, List.getElem?_cons_zero]; exact rfl)
        case hf3x15 => kernel_rfl
        case hr3x15 => kernel_rfl
        case hy3x15 => (refine Or.inl ⟨by rfl, ?_⟩; intro w hSw; (try dsimp only at hSw); go_simp; try with_reducible rfl)
        simp only [put_mk, List.set_cons_succ, List.set_cons_zero]
        refine wpAnyH_done (by kernel_rfl) ?_ _
        refine NoPanic.normal ?_
        go_wp2_with fail
        go_roundw
        case rel => exact ⟨k + 1, by omega, rfl, fun i h1 h2 => (by
          rcases Nat.lt_or_ge i k with h | h
          · exact Hop.out i h1 h
          · obtain rfl : i = k := by omega
            exact HB.out), (by repeat (first | exact Ext.refl _ | assumption | refine Ext.setCell ?_ (by first | (simp; done) | (simp; omega)) _ | refine Ext.drewN ?_ _ | refine Ext.alloc ?_ _ | refine Ext.drew ?_ | refine Ext.trans ?_ (by assumption)))⟩
        case measure => simp [intOf]; omega
    · go_wp2
      go_ret
      exact ⟨ret_b (sees_yes Hop.out (by omega)).symm, (by repeat (first | exact Ext.refl _ | assumption | refine Ext.setCell ?_ (by first | (simp; done) | (simp; omega)) _ | refine Ext.drewN ?_ _ | refine Ext.alloc ?_ _ | refine Ext.drew ?_ | refine Ext.trans ?_ (by assumption)))⟩
end Go.Proofs.Ytjfipkccbapajaa
