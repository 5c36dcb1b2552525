/- Contracts: level.line, tarnref2.LineOf. -/
import Derived.Test.YtjfipkccbapajaaLineB
import Derived.Deep.DeepMust
namespace Go.Proofs.Ytjfipkccbapajaa
open Go.RowKit
attribute [local go_sem ↓] Go.wp_at_zero Go.wp_at_succ
attribute [local go_sem] run_max4

theorem Try.infoPt : (Try.prog.info? 31).map (fun i => (i.zero, i.size, i.bytes)) = some (some (.agg #[.int .i64 0, .int .i64 0]), 2, 16) := by kernel_rfl

theorem mk_pt (n : Nat) (hn : n ≤ 262144) (w : World) : (Instr.makeSlice 37 (.int .i64 0) (.int .i64 (n : Int))).run Try.prog w =
    .ok (.slice (some ⟨w.heap.size, 0, none⟩) 0 n) (w.alloc (.cells (madeCells (Value.agg #[.int .i64 0, .int .i64 0]).cells (n * 2)) 31)) := by
  obtain ⟨i0, hi0, hz0, hz1, hz2⟩ := info_parts Try.infoPt
  have h := run_make (P := Try.prog) w 37 31 i0 (.agg #[.int .i64 0, .int .i64 0]) Try.underlying37 hi0 hz0 .i64 .i64 0 n (by omega) (by omega) (by rw [hz2]; omega) (by omega)
  rw [hz1] at h
  simpa using h

def ptv (l : List (Int × Int)) : List Value := l.flatMap fun p => [.int .i64 p.1, .int .i64 p.2]
theorem ptv_append (l m : List (Int × Int)) : ptv (l ++ m) = ptv l ++ ptv m := by simp [ptv]
theorem ptv_length (l : List (Int × Int)) : (ptv l).length = 2 * l.length := by
  induction l with
  | nil => rfl
  | cons p r ih => rw [show ptv (p :: r) = [.int .i64 p.1, .int .i64 p.2] ++ ptv r from rfl, List.length_append, ih]; simp; omega

def linePt (ax ay bx by' : Int) (n i : Nat) : Int × Int := (ptX ax bx i n, ptX ay by' i n)
def linePts (ax ay bx by' : Int) (n k : Nat) : List (Int × Int) := (List.range k).map (linePt ax ay bx by' n)
theorem linePts_succ (ax ay bx by' : Int) (n k : Nat) : linePts ax ay bx by' n (k + 1) = linePts ax ay bx by' n k ++ [linePt ax ay bx by' n k] := by simp [linePts, List.range_succ]

theorem max4_bd {x y z u n : Int} (h : max4 x y z u = n) : x ≤ n ∧ y ≤ n ∧ z ≤ n ∧ u ≤ n := by unfold max4 at h; omega

theorem mul_bd {i d n : Int} (hi : 0 ≤ i ∧ i ≤ n) (hd : -n ≤ d ∧ d ≤ n) (hn : n ≤ 65536) : -34359738368 ≤ 2 * i * d ∧ 2 * i * d ≤ 34359738368 := by
  have h1 : i * d ≤ i * n := Int.mul_le_mul_of_nonneg_left hd.2 hi.1
  have h2 : i * -n ≤ i * d := Int.mul_le_mul_of_nonneg_left hd.1 hi.1
  have h3 : i * n ≤ 65536 * 65536 := Int.mul_le_mul (by omega) hn (by omega) (by omega)
  rw [Int.mul_neg] at h2
  rw [Int.mul_assoc]
  omega

theorem ptX_zero {a b n : Int} (hn : 0 ≤ n) : ptX a b 0 n = a := by
  unfold ptX
  have : (2 * 0 * (b - a) + n) / (2 * n) = 0 := by
    rcases Int.lt_or_eq_of_le hn with h | h
    · exact Int.ediv_eq_zero_of_lt (by simp; omega) (by simp; omega)
    · subst h; simp
  omega

set_option maxRecDepth 100000 in
set_option maxHeartbeats 1600000 in
theorem line_any (ax ay bx by' : Int) (n : Nat) (w : World) (h1 : -4194304 ≤ ax ∧ ax ≤ 4194304) (h2 : -4194304 ≤ ay ∧ ay ≤ 4194304) (h3 : -4194304 ≤ bx ∧ bx ≤ 4194304) (h4 : -4194304 ≤ by' ∧ by' ≤ 4194304)
    (hs : stepsZ ax ay bx by' = n) (hn : n ≤ 65535) :
    Calls Try.prog 88 #[.agg #[.int .i64 ax, .int .i64 ay], .agg #[.int .i64 bx, .int .i64 by']] w fun e w' =>
      ∃ A c, e = .returned (.slice A (n + 1 : Nat) c) ∧ Rdb w.heap.size w' A (ptv (linePts ax ay bx by' n (n + 1))) ∧ Ext w w' := by
  obtain ⟨i0, hi0, hz0, hz1, hz2⟩ := info_parts Try.infoPt
  have hbd := max4_bd hs
  have Hs := hidA hs
  clear hs
  by_cases h0 : n = 0
  · subst h0
    go_enter Try.func88, Try.ntmps88
    go_wp2_with fail
    refine (steps_any _ _ _ _ _ (by omega) (by omega) (by omega) (by omega)).mono ?_
    rw [Hs.out]
    rintro e w1 ⟨rfl, hb1⟩
    have hc1 := hb1.cell
    go_wp2
    go_ret
    have e1 : ptv (linePts ax ay bx by' 0 (0 + 1)) = [.int .i64 ax, .int .i64 ay] := by simp [linePts, linePt, ptv, ptX_zero]
    refine ⟨some ⟨w1.heap.size, 0, none⟩, 1, rfl, ?_, (by repeat (first | exact Ext.refl _ | assumption | refine Ext.setCell ?_ (by first | (simp; done) | (simp; omega)) _ | refine Ext.drewN ?_ _ | refine Ext.alloc ?_ _ | refine Ext.drew ?_ | refine Ext.trans ?_ (by assumption)))⟩
    rw [e1]
    exact (Rdb.new (by simp) rfl).mono (by have := hb1.size; simp at this; omega)
  · have hmk := mk_pt (n + 1) (by omega)
    simp only [Int.natCast_add, Int.cast_ofNat_Int] at hmk
    have h0' : ((n : Int) == 0) = false := by simp; omega
    go_enter Try.func88, Try.ntmps88
    go_wp2_with fail
    refine (steps_any _ _ _ _ _ (by omega) (by omega) (by omega) (by omega)).mono ?_
    rw [Hs.out]
    rintro e w1 ⟨rfl, hb1⟩
    have hc1 := hb1.cell
    go_wp2_with fail
    go_loopw [6, 20] (fun v i wr => ∃ (k : Nat) (A : Option Addr) (c : Nat), k ≤ n + 1 ∧ i = .int .i64 k ∧ v = .slice A k c ∧ wr.ownsRow (w.heap.size + 2) 31 2 (.slice A k c) k (ptv (linePts ax ay bx by' n k)) ∧ Ext w wr ∧ Bk wr w.heap.size 31 #[.int .i64 ax, .int .i64 ay] ∧ Bk wr (w.heap.size + 1) 31 #[.int .i64 bx, .int .i64 by']) (fun _ i _ => n + 1 - (intOf i).toNat)
    case atStart =>
      have hb1s := hb1.size
      simp at hb1s
      refine ⟨0, some ⟨w1.heap.size, 0, none⟩, n + 1, by omega, rfl, rfl, ?_, (by repeat (first | exact Ext.refl _ | assumption | refine Ext.setCell ?_ (by first | (simp; done) | (simp; omega)) _ | refine Ext.drewN ?_ _ | refine Ext.alloc ?_ _ | refine Ext.drew ?_ | refine Ext.trans ?_ (by assumption))), ?_, ?_⟩
      · exact own_made' rfl _ _ (by omega) (by unfold maxLen; omega) (by simp [madeCells])
      · exact (((Bk.new' rfl).alloc _).ext hb1).alloc _
      · exact ((Bk.new' (by simp)).ext hb1).alloc _
    case round =>
      obtain ⟨k, A, c, hk, rfl, rfl, hown, hx, hB0, hB1⟩ := hrel
      have c0 : wr.cell? ⟨w.heap.size, 0, none⟩ = some (.int .i64 ax) := hB0.cell 0
      have c1 : wr.cell? ⟨w.heap.size, 1, none⟩ = some (.int .i64 ay) := hB0.cell 1
      have c2 : wr.cell? ⟨w.heap.size + 1, 0, none⟩ = some (.int .i64 bx) := hB1.cell 0
      have c3 : wr.cell? ⟨w.heap.size + 1, 1, none⟩ = some (.int .i64 by') := hB1.cell 1
      clear hc1
      by_cases hlt : k < n + 1
      · obtain ⟨q1, q2⟩ := mul_bd (i := k) (d := bx - ax) (n := n) (by omega) (by omega) (by omega)
        obtain ⟨q3, q4⟩ := mul_bd (i := k) (d := by' - ay) (n := n) (by omega) (by omega) (by omega)
        go_wp2_with fail
        refine (between_any _ _ _ _ _ _ _ h1 h2 h3 h4 (by omega) (by omega) q1 q2 q3 q4).mono ?_
        rintro e w2 ⟨rfl, hb2⟩
        have hown2 := own_ext hown hb2
        go_wp2_with (at_builtin; go_must (refine wpList_append_lies _ (by rfl) _ _ _ (by rfl) (w.heap.size + 2) 31 i0 _ 2 16 Try.underlying37 hi0 hz0 hz1 hz2 rfl (by omega) _ _ _ (by rfl) (hown2.alloc _) ⟨w2.heap.size, 0, none⟩ 1 1 [.int .i64 (ptX ax bx k n), .int .i64 (ptX ay by' k n)] (by rfl) (by rfl) (World.news_of_block (cs := #[.int .i64 (ptX ax bx k n), .int .i64 (ptX ay by' k n)]) (t := 31) (fr := (0, 0)) (heap_alloc_new w2 _)) (by simp [Value.oneCell']) (by omega) (by unfold maxLen; omega) (by omega) (by have := hB1.lt; have := hb2.size; simp; omega) (w2.heap.size + 1) (by simp) ?_); intro gg cap w3 hown3 hgrow hat hltg)
        go_roundw
        case rel => exact ⟨k + 1, some ⟨gg, 0, none⟩, cap, by omega, by go_num, rfl, by rw [linePts_succ, ptv_append]; exact hown3, ((hx.trans hb2).alloc _).own (hown2.alloc _) (by omega) hgrow, ((hB0.ext hb2).alloc _).grown hgrow (own_far hown2 (by omega)), ((hB1.ext hb2).alloc _).grown hgrow (own_far hown2 (by omega))⟩
        case measure => simp [intOf]; omega
      · obtain rfl : k = n + 1 := by omega
        go_wp2
        go_ret
        exact ⟨A, c, rfl, (Rdb.of_own hown).mono (by omega), hx⟩

end Go.Proofs.Ytjfipkccbapajaa
