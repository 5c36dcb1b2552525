/- Contracts: level.Profile, tarnref2.Values. -/
import Derived.Test.YtjfipkccbapajaaSight
import Derived.Test.YtjfipkccbapajaaLineE
namespace Go.Proofs.Ytjfipkccbapajaa
open Go.RowKit
attribute [local go_sem ↓] Go.wp_at_zero Go.wp_at_succ

theorem ptX_in {a b i n lo up : Int} (h0 : 0 ≤ i) (hi : i ≤ n) (ha : lo ≤ a ∧ a < up) (hb : lo ≤ b ∧ b < up) : lo ≤ ptX a b i n ∧ ptX a b i n < up := by
  rcases Int.lt_or_eq_of_le (show 0 ≤ n by omega) with hn | hn
  · unfold ptX
    have e : 2 * i * (b - a) = 2 * (i * (b - a)) := Int.mul_assoc _ _ _
    rw [e]
    have hlo : i * (b - a) ≤ n * (b - a) ∧ 0 ≤ i * (b - a) ∨ n * (b - a) ≤ i * (b - a) ∧ i * (b - a) ≤ 0 := by
      rcases Int.le_total 0 (b - a) with h | h
      · exact .inl ⟨Int.mul_le_mul_of_nonneg_right hi h, Int.mul_nonneg h0 h⟩
      · exact .inr ⟨Int.mul_le_mul_of_nonpos_right hi h, Int.mul_nonpos_of_nonneg_of_nonpos h0 h⟩
    generalize i * (b - a) = t at hlo
    have k1 : ∀ z, z ≤ (2 * t + n) / (2 * n) ↔ z * (2 * n) ≤ 2 * t + n := fun z => Int.le_ediv_iff_mul_le (by omega)
    have k2 : ∀ z, (2 * t + n) / (2 * n) < z ↔ 2 * t + n < z * (2 * n) := fun z => Int.ediv_lt_iff_lt_mul (by omega)
    rcases hlo with ⟨h1, h2⟩ | ⟨h1, h2⟩
    · have g1 := (k1 0).2 (by omega)
      have g2 := (k2 (b - a + 1)).2 (by
        have : (b - a + 1) * (2 * n) = 2 * (n * (b - a)) + 2 * n := by rw [Int.add_mul, Int.mul_comm (b - a) (2 * n), Int.mul_assoc]; omega
        rw [this]; omega)
      omega
    · have g1 := (k1 (b - a)).2 (by
        have : (b - a) * (2 * n) = 2 * (n * (b - a)) := by rw [Int.mul_comm (b - a) (2 * n), Int.mul_assoc]
        rw [this]; omega)
      have g2 := (k2 1).2 (by omega)
      omega
  · obtain rfl : i = 0 := by omega
    rw [ptX_zero (by omega)]
    exact ha

theorem flt_snoc {α : Type} (f : α → Nat) (l : List α) (x : α) : flt ((l ++ [x]).map f) = flt (l.map f) ++ [.float .f32 (f x)] := by simp [flt]

def valAt (X Y W : Int) (l : List Nat) (p : Int × Int) : Nat := l.getD (cellN X Y W p.1 p.2).toNat 0

theorem valAt_get {X Y W H x y : Int} {l : List Nat} (hr : RegOk X Y W H) (h : InR X Y W H x y) (hn : (l.length : Int) = W * H) :
    ∃ k : Nat, cellN X Y W x y = k ∧ k < l.length ∧ l[k]? = some (valAt X Y W l (x, y)) := by
  obtain ⟨b1, b2, b3, b4, b5, b6⟩ := cell_bd hr h
  have h0 : 0 ≤ cellN X Y W x y := by unfold cellN; omega
  obtain ⟨k, hk⟩ := Int.eq_ofNat_of_zero_le h0
  have hkl : k < l.length := by
    have : (k : Int) < l.length := by rw [← hk, hn]; unfold cellN; omega
    omega
  refine ⟨k, hk, hkl, ?_⟩
  simp [valAt, hk, List.getD, hkl]

theorem line_in {X Y W H ax ay bx by' : Int} {n k : Nat} (ha : InR X Y W H ax ay) (hb : InR X Y W H bx by') (hk : k ≤ n) : InR X Y W H (linePt ax ay bx by' n k).1 (linePt ax ay bx by' n k).2 := by
  unfold InR at *
  have h1 := ptX_in (a := ax) (b := bx) (i := k) (n := n) (lo := X) (up := X + W) (by omega) (by omega) ⟨ha.1, ha.2.1⟩ ⟨hb.1, hb.2.1⟩
  have h2 := ptX_in (a := ay) (b := by') (i := k) (n := n) (lo := Y) (up := Y + H) (by omega) (by omega) ⟨ha.2.2.1, ha.2.2.2⟩ ⟨hb.2.2.1, hb.2.2.2⟩
  exact ⟨h1.1, h1.2, h2.1, h2.2⟩

set_option maxRecDepth 100000 in
set_option maxHeartbeats 1600000 in
theorem values_any (X Y W H : Int) (A B : Option Addr) (n c m d : Nat) (l : List Nat) (pts : List (Int × Int)) (w : World) (hr : RegOk X Y W H) (hn : l.length = n) (hnw : (n : Int) = W * H) (hd : Rd w A (flt l)) (hm : pts.length = m) (hp : Rd w B (ptv pts)) (hin : ∀ p ∈ pts, InR X Y W H p.1 p.2) (hmb : m ≤ 1000000) :
    Calls Try.prog 29 #[.agg #[.int .i64 X, .int .i64 Y, .int .i64 W, .int .i64 H, .slice A n c], .slice B m d] w fun e w' =>
      ∃ C q, e = .returned (.slice C m q) ∧ Rdb w.heap.size w' C (flt (pts.map (valAt X Y W l))) ∧ Ext w w' := by
  obtain ⟨i0, hi0, hz0, hz1, hz2⟩ := info_parts Try.infoF32
  have Hr := hidA hr
  have Hn := hidA hn
  have Hm := hidA hm
  have Hin := hidA hin
  have hnw' : (l.length : Int) = W * H := by rw [hn]; exact hnw
  have Hw := hidA hnw'
  clear hr hn hm hin hnw hnw'
  go_enter Try.func29, Try.ntmps29
  go_wp2
  go_loopw [5, 10] (fun v i wr => ∃ (k : Nat) (C : Option Addr) (q : Nat), k ≤ m ∧ i = .int .i64 k ∧ v = .slice C k q ∧ wr.ownsRow (w.heap.size + 1) 71 1 (.slice C k q) k (flt ((pts.take k).map (valAt X Y W l))) ∧ Ext w wr ∧ Bk wr w.heap.size 48 #[.int .i64 X, .int .i64 Y, .int .i64 W, .int .i64 H, .slice A n c]) (fun _ i _ => m - (intOf i).toNat)
  case atStart => exact ⟨0, none, 0, by omega, rfl, rfl, by simpa [flt] using World.ownsRow_nil _ _ _ _, (Ext.refl _).alloc _, Bk.new _ _ _⟩
  case round =>
    obtain ⟨k, C, q, hk, rfl, rfl, hown, hx, hB⟩ := hrel
    have hl := hB.lt
    have d0 : wr.cell? ⟨w.heap.size, 0, none⟩ = some (.int .i64 X) := hB.cell 0
    have d1 : wr.cell? ⟨w.heap.size, 1, none⟩ = some (.int .i64 Y) := hB.cell 1
    have d2 : wr.cell? ⟨w.heap.size, 2, none⟩ = some (.int .i64 W) := hB.cell 2
    have d3 : wr.cell? ⟨w.heap.size, 3, none⟩ = some (.int .i64 H) := hB.cell 3
    have d4 : wr.cell? ⟨w.heap.size, 4, none⟩ = some (.slice A n c) := hB.cell 4
    by_cases hlt : k < m
    · have hkl : k < pts.length := by have := Hm.out; omega
      obtain ⟨ad, rfl, hbk, hc⟩ := (hp.ext hx).at (k := k * 2) (by rw [ptv_length]; omega)
      have e0 := hc (k * 2) _ (ptv_get hkl).1
      have e1 : wr.cell? ⟨(ad.add (k * 2)).block, (ad.add (k * 2)).off + 1, none⟩ = some (.int .i64 pts[k].2) := by rw [add_off _ _ (by omega)]; exact hc (k * 2 + 1) _ (ptv_get hkl).2
      have hi2 := Hin.out _ (List.getElem_mem hkl)
      obtain ⟨j, hj, hjl, hjv⟩ := valAt_get (l := l) Hr.out hi2 Hw.out
      obtain ⟨ad2, rfl, hbk0, hc2⟩ := hd.at (k := j) (by simpa using hjl)
      have hbk2 : ad2.block < wr.heap.size := by have := hx.size; omega
      have e2 : wr.cell? (ad2.add j) = some (.float .f32 (valAt X Y W l pts[k])) := by
        rw [hx.cell _ (by rw [add_block]; exact hbk0)]
        exact hc2 j _ (by simp [flt, hjv])
      have Hi2 := hidA hi2
      have Hj := hidA hj
      have hjn : (j : Int) < n := by have := Hn.out; omega
      have hj0 : (0 : Int) ≤ j := by omega
      have Htk : Hid (pts.take (k + 1) = pts.take k ++ [pts[k]]) := List.take_succ_eq_append_getElem hkl
      clear hc hc2 hp hd hi2 hj hjv hjl
      go_wp2
      generalize hwA : wr.alloc (.cells #[.int .i64 pts[k].1, .int .i64 pts[k].2] 31) = wA
      have hxA : Ext wr wA := by subst hwA; exact (Ext.refl _).alloc _
      have hBA : Bk wA wr.heap.size 31 #[.int .i64 pts[k].1, .int .i64 pts[k].2] := by subst hwA; exact Bk.new _ _ _
      have hB2 := hB.ext hxA
      have hown2 := own_ext hown hxA
      have hf0 : some w.heap.size ≠ (Value.slice C k q).ownBlock := own_far hown2 (by omega)
      have hf1 : some wr.heap.size ≠ (Value.slice C k q).ownBlock := fun e => by have := (hown.lt _ e.symm).2; omega
      have hf2 : some ad2.block ≠ (Value.slice C k q).ownBlock := fun e => by have := (hown.lt _ e.symm).1; omega
      have hlA := hxA.size
      have s0 : ∀ w', wA.grownBy w' (Value.slice C k q).ownBlock → w'.cell? ⟨w.heap.size, 0, none⟩ = some (.int .i64 X) := fun w' h => (hB2.grown h hf0).cell 0
      have s1 : ∀ w', wA.grownBy w' (Value.slice C k q).ownBlock → w'.cell? ⟨w.heap.size, 1, none⟩ = some (.int .i64 Y) := fun w' h => (hB2.grown h hf0).cell 1
      have s2 : ∀ w', wA.grownBy w' (Value.slice C k q).ownBlock → w'.cell? ⟨w.heap.size, 2, none⟩ = some (.int .i64 W) := fun w' h => (hB2.grown h hf0).cell 2
      have s3 : ∀ w', wA.grownBy w' (Value.slice C k q).ownBlock → w'.cell? ⟨w.heap.size, 3, none⟩ = some (.int .i64 H) := fun w' h => (hB2.grown h hf0).cell 3
      have s4 : ∀ w', wA.grownBy w' (Value.slice C k q).ownBlock → w'.cell? ⟨w.heap.size, 4, none⟩ = some (.slice (some ad2) n c) := fun w' h => (hB2.grown h hf0).cell 4
      have s5 : ∀ w', wA.grownBy w' (Value.slice C k q).ownBlock → w'.cell? ⟨wr.heap.size, 0, none⟩ = some (.int .i64 pts[k].1) := fun w' h => (hBA.grown h hf1).cell 0
      have s6 : ∀ w', wA.grownBy w' (Value.slice C k q).ownBlock → w'.cell? ⟨wr.heap.size, 1, none⟩ = some (.int .i64 pts[k].2) := fun w' h => (hBA.grown h hf1).cell 1
      have s7 : ∀ w', wA.grownBy w' (Value.slice C k q).ownBlock → w'.cell? (ad2.add j) = some (.float .f32 (valAt X Y W l pts[k])) := fun w' h => by
        rw [World.cell?_of_block (w := wA) (h.block _ (by rw [add_block]; omega) (by rw [add_block]; exact hf2)), hxA.cell _ (by rw [add_block]; exact hbk2)]
        exact e2
      have u1 : k + 1 ≤ maxLen := by unfold maxLen; omega
      have u2 : (k + 1) * 4 ≤ 140737488355328 := by omega
      clear hwA d0 d1 d2 d3 d4 e0 e1 e2 hf0 hf1 hf2
      go_region_held3 (fun w' => wA.grownBy w' (Value.slice C k q).ownBlock) ((repeat (first | exact World.grownBy.refl _ _ | assumption | refine grown_drew' ?_ | refine grown_alloc' ?_ _ | refine grown_trans' ?_ (grown_ext (by assumption) _) | refine grown_trans' ?_ (by assumption) | refine grown_set' ?_ (by first | (simp; done) | (simp; omega)) _)))
        (first
          | (go_at_call 69; refine (cell_any _ _ _ _ _ _ _ Hr.out Hi2.out).mono ?_; rw [Hj.out]; rintro e w2 ⟨rfl, hb2⟩; have hb3 : Ext wA w2 := (Ext.refl wA).drew.trans hb2; have hown3 := own_ext hown2 hb3; have hl3 := hb3.size)
          | ((refine step_append_lies _ (by rfl) _ _ _ (by rfl) (w.heap.size + 1) 71 i0 _ 1 4 Try.underlying46 hi0 hz0 hz1 hz2 rfl (by decide) _ _ _ (by rfl) (hown3.alloc _) ⟨w2.heap.size, 0, none⟩ 1 1 [.float .f32 (valAt X Y W l pts[k])] (by rfl) (by rfl) (World.news_of_block (cs := #[.float .f32 (valAt X Y W l pts[k])]) (t := 71) (fr := (0, 0)) (heap_alloc_new w2 _)) (by simp [Value.oneCell']) (by decide) u1 u2 (by rw [World.size_alloc]; omega) (w2.heap.size + 1) (by simp) ?_; intro gg cap w3 hown4 hgrow hat hltg)))
      have hB3 : Bk w3 w.heap.size 48 _ := ((hB2.ext hb3).alloc _).grown hgrow (own_far hown3 (by omega))
      have hx3 : Ext w w3 := (((hx.trans hxA).trans hb3).alloc _).own (hown3.alloc _) (by omega) hgrow
      clear s0 s1 s2 s3 s4 s5 s6 s7
      go_wp2
      go_roundw
      case rel => exact ⟨k + 1, some ⟨gg, 0, none⟩, cap, by omega, by go_num, rfl, by rw [Htk.out, flt_snoc]; exact hown4, hx3, hB3⟩
      case measure => simp [intOf]; omega
    · obtain rfl : k = m := by omega
      go_wp2
      go_ret
      refine ⟨C, q, rfl, ?_, hx⟩
      have h := Rdb.of_own hown
      rw [List.take_of_length_le (by have := Hm.out; omega)] at h
      exact h.mono (by omega)

set_option maxRecDepth 100000 in
set_option maxHeartbeats 3200000 in
theorem profile_bad (X Y W H ax ay bx by' : Int) (A : Option Addr) (n c : Nat) (l : List Nat) (w : World) (hn : l.length = n) (hd : Rd w A (flt l)) (hb : n ≤ 140737488351232) (he : fieldE X Y W H l ≠ 0) :
    Calls Try.prog 23 #[.agg #[.int .i64 X, .int .i64 Y, .int .i64 W, .int .i64 H, .slice A n c], .agg #[.int .i64 ax, .int .i64 ay], .agg #[.int .i64 bx, .int .i64 by']] w fun e w' =>
      e = .returned (.tuple #[.slice none 0 0, .int .i64 (fieldE X Y W H l)]) ∧ Ext w w' := by
  have he' : (fieldE X Y W H l != 0) = true := by simp [he]
  go_enter Try.func23, Try.ntmps23
  go_wp2_with fail
  refine (check_any X Y W H A n c l _ hn (((hd.alloc _).alloc _).alloc _) hb).mono ?_
  rintro e w1 ⟨rfl, hb1⟩
  clear hn hd
  go_wp2
  go_ret2
  exact ⟨rfl, (by repeat (first | exact Ext.refl _ | assumption | refine Ext.setCell ?_ (by first | (simp; done) | (simp; omega)) _ | refine Ext.drewN ?_ _ | refine Ext.alloc ?_ _ | refine Ext.drew ?_ | refine Ext.trans ?_ (by assumption)))⟩

theorem fieldE_parts {X Y W H : Int} {l : List Nat} (h : fieldE X Y W H l = 0) : regE X Y W H = 0 ∧ (l.length : Int) = W * H ∧ numE l = 0 := by
  unfold fieldE at h
  split at h
  · contradiction
  · split at h
    · simp at h
    · rename_i h1 h2
      exact ⟨by simpa using h1, by simpa using h2, h⟩

set_option maxRecDepth 100000 in
set_option maxHeartbeats 3200000 in
theorem profile_out (X Y W H ax ay bx by' : Int) (A : Option Addr) (n c : Nat) (l : List Nat) (w : World) (hn : l.length = n) (hd : Rd w A (flt l)) (hb : n ≤ 140737488351232) (he : fieldE X Y W H l = 0) (hi : ¬ (InR X Y W H ax ay ∧ InR X Y W H bx by')) :
    Calls Try.prog 23 #[.agg #[.int .i64 X, .int .i64 Y, .int .i64 W, .int .i64 H, .slice A n c], .agg #[.int .i64 ax, .int .i64 ay], .agg #[.int .i64 bx, .int .i64 by']] w fun e w' =>
      e = .returned (.tuple #[.slice none 0 0, .int .i64 5]) ∧ Ext w w' := by
  have Hr := hidA (RegOk.of_zero (fieldE_parts he).1)
  have HI : Hid (insE X Y W H [(ax, ay), (bx, by')] = 5) := by
    show insE X Y W H [(ax, ay), (bx, by')] = 5
    simp only [insE]
    by_cases h1 : InR X Y W H ax ay
    · rw [if_pos h1, if_neg (fun h2 => hi ⟨h1, h2⟩)]
    · rw [if_neg h1]
  have He := hidA he
  clear he hi
  go_enter Try.func23, Try.ntmps23
  go_wp2_with fail
  refine (check_any X Y W H A n c l _ hn (((hd.alloc _).alloc _).alloc _) hb).mono ?_
  rw [He.out]
  rintro e w1 ⟨rfl, hb1⟩
  have hc1 := hb1.cell
  clear hn hd
  go_wp2_with fail
  refine (inside_any X Y W H _ _ 2 2 [(ax, ay), (bx, by')] _ Hr.out rfl (Rd.new (by simp) rfl) (by omega)).mono ?_
  rw [HI.out]
  rintro e w2 ⟨rfl, hb2⟩
  go_wp2
  go_ret2
  exact ⟨rfl, (by repeat (first | exact Ext.refl _ | assumption | refine Ext.setCell ?_ (by first | (simp; done) | (simp; omega)) _ | refine Ext.drewN ?_ _ | refine Ext.alloc ?_ _ | refine Ext.drew ?_ | refine Ext.trans ?_ (by assumption)))⟩

end Go.Proofs.Ytjfipkccbapajaa
