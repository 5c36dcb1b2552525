/- How the arguments lie: fields, regions, points, numbers, slices of numbers. -/
import Derived.Test.YtepgfplbkmhgbaaTdAL
import Derived.Test.YtepgfplbkmhgbaaTdAG
import Derived.Lib.MinMax
import Derived.BigQuiet
import Derived.Deep.AppendLies
import Derived.Test.YtepgfplbkmhgbaaTdAE
import Derived.RegionTactic
import Derived.Deep.DeepCutAuto
import Derived.Test.YtepgfplbkmhgbaaRows
import Derived.Test.YtepgfplbkmhgbaaBaseC
import Derived.WalkKit
import Derived.ProofKit
import Derived.OpenShut
import Derived.SizedLaws
import Derived.Carry
import Derived.Lib.SmallJoins
import Derived.Deep.Slices
namespace Go.Proofs.Ytepgfplbkmhgbaa
open Go.RowKit
attribute [local go_sem ↓] Go.wp_at_zero Go.wp_at_succ

def nats (q : List Nat) : List Value := q.map fun (k : Nat) => Value.int .i64 (k : Int)
theorem nats_snoc (q : List Nat) (i : Nat) : nats (q ++ [i]) = nats q ++ [.int .i64 (i : Int)] := by simp [nats]
theorem nats_get {q : List Nat} {k : Nat} (hk : k < q.length) : (nats q)[k]? = some (.int .i64 (q[k] : Nat)) := by simp [nats, hk]
/-- a slice of the call's own, and the numbers that it holds -/
def OwnN (w : World) (base : Nat) (qv : Value) (q : List Nat) : Prop := w.ownsRow base 3 1 qv q.length (nats q)
theorem OwnN.nil (w : World) (base : Nat) : OwnN w base (.slice none 0 0) [] := World.ownsRow_nil w base _ 1
theorem OwnN.grown {w w' : World} {base : Nat} {qv : Value} {q : List Nat} (h : OwnN w base qv q) {r : Option Nat} (hg : w.grownBy w' r) (hne : qv.ownBlock = none ∨ qv.ownBlock ≠ r) : OwnN w' base qv q := World.ownsRow.kept h hg hne
theorem OwnN.ext {w w' : World} {base : Nat} {qv : Value} {q : List Nat} (h : OwnN w base qv q) (hx : Ext w w') : OwnN w' base qv q := h.grown (grown_ext hx none) (by cases h : qv.ownBlock <;> simp)
theorem OwnN.snoc {w : World} {base : Nat} {qv : Value} {q : List Nat} {i : Nat} (h : w.ownsRow base 3 1 qv (q.length + 1) (nats q ++ [.int .i64 (i : Int)])) : OwnN w base qv (q ++ [i]) := by
  unfold OwnN
  rw [nats_snoc, List.length_append]
  exact h

/-- the neighbours of a cell, by places -/
def NearP (Wn Hn a b i j : Nat) : Prop := i < Wn ∧ j < Hn ∧ a ≤ i + 1 ∧ i ≤ a + 1 ∧ b ≤ j + 1 ∧ j ≤ b + 1 ∧ (i ≠ a ∨ j ≠ b)
theorem step_all (dx dy : Int) (h1 : -1 ≤ dx) (h2 : dx ≤ 1) (h3 : -1 ≤ dy) (h4 : dy ≤ 1) (h5 : dx ≠ 0 ∨ dy ≠ 0) : ∃ d : Nat, d < 8 ∧ stepX d = dx ∧ stepY d = dy := by
  have hx : dx = -1 ∨ dx = 0 ∨ dx = 1 := by omega
  have hy : dy = -1 ∨ dy = 0 ∨ dy = 1 := by omega
  rcases hx with rfl | rfl | rfl <;> rcases hy with rfl | rfl | rfl
  · exact ⟨5, by decide, by decide, by decide⟩
  · exact ⟨4, by decide, by decide, by decide⟩
  · exact ⟨3, by decide, by decide, by decide⟩
  · exact ⟨6, by decide, by decide, by decide⟩
  · omega
  · exact ⟨2, by decide, by decide, by decide⟩
  · exact ⟨7, by decide, by decide, by decide⟩
  · exact ⟨0, by decide, by decide, by decide⟩
  · exact ⟨1, by decide, by decide, by decide⟩
theorem step_some (d : Nat) (hd : d < 8) : stepX d ≠ 0 ∨ stepY d ≠ 0 := by
  have h : d = 0 ∨ d = 1 ∨ d = 2 ∨ d = 3 ∨ d = 4 ∨ d = 5 ∨ d = 6 ∨ d = 7 := by omega
  rcases h with rfl | rfl | rfl | rfl | rfl | rfl | rfl | rfl <;> decide
theorem near_nbr {Wn Hn k n : Nat} : (∃ d, d < 8 ∧ nbr Wn Hn k d = some n) ↔ ∃ i j, NearP Wn Hn (k % Wn) (k / Wn) i j ∧ n = j * Wn + i := by
  generalize ha : k % Wn = a
  generalize hb : k / Wn = b
  constructor
  · rintro ⟨d, hd, h⟩
    unfold nbr at h
    rw [ha, hb] at h
    split at h
    · rename_i hc
      injection h with h
      obtain ⟨s1, s2, s3, s4⟩ := step_bd d
      have s5 := step_some d hd
      refine ⟨((a : Int) + stepX d).toNat, ((b : Int) + stepY d).toNat, ?_, h.symm⟩
      unfold NearP
      omega
    · cases h
  · rintro ⟨i, j, ⟨h1, h2, h3, h4, h5, h6, h7⟩, rfl⟩
    obtain ⟨d, hd, ex, ey⟩ := step_all ((i : Int) - a) ((j : Int) - b) (by omega) (by omega) (by omega) (by omega) (by omega)
    refine ⟨d, hd, ?_⟩
    unfold nbr
    rw [ha, hb, ex, ey, if_pos (by omega)]
    congr 1
    rw [show ((b : Int) + ((j : Int) - b)).toNat = j by omega, show ((a : Int) + ((i : Int) - a)).toNat = i by omega]
/-- what is listed ahead of a place -/
def NearL (Wn Hn a b j i : Nat) (L : List Nat) : Prop := ∀ n, n ∈ L ↔ ∃ i' j', NearP Wn Hn a b i' j' ∧ (j' < j ∨ j' = j ∧ i' < i) ∧ n = j' * Wn + i'
theorem NearL.nil {Wn Hn a b : Nat} : NearL Wn Hn a b (b - 1) 0 [] := fun n => by
  constructor
  · intro h; cases h
  · rintro ⟨i', j', ⟨_, _, _, _, h5, _, _⟩, h, _⟩
    omega
theorem NearL.start {Wn Hn a b j : Nat} {L : List Nat} (h : NearL Wn Hn a b j 0 L) : NearL Wn Hn a b j (a - 1) L := fun n => by
  rw [h n]
  constructor
  · rintro ⟨i', j', h1, h2, h3⟩
    exact ⟨i', j', h1, by omega, h3⟩
  · rintro ⟨i', j', h1, h2, h3⟩
    refine ⟨i', j', h1, ?_, h3⟩
    obtain ⟨_, _, h4, _⟩ := h1
    omega
theorem NearL.fin {Wn Hn a b j i : Nat} {L : List Nat} (h : NearL Wn Hn a b j i L) (hi : min (Wn - 1) (a + 1) < i) : NearL Wn Hn a b (j + 1) 0 L := fun n => by
  rw [h n]
  constructor
  · rintro ⟨i', j', h1, h2, h3⟩
    exact ⟨i', j', h1, by omega, h3⟩
  · rintro ⟨i', j', h1, h2, h3⟩
    refine ⟨i', j', h1, ?_, h3⟩
    obtain ⟨_, _, h4, _⟩ := h1
    omega
theorem NearL.skip {Wn Hn a b j i : Nat} {L : List Nat} (h : NearL Wn Hn a b j i L) (h1 : i = a) (h2 : j = b) : NearL Wn Hn a b j (i + 1) L := fun n => by
  rw [h n]
  constructor
  · rintro ⟨i', j', h1, h2, h3⟩
    exact ⟨i', j', h1, by omega, h3⟩
  · rintro ⟨i', j', h3, h4, h5⟩
    refine ⟨i', j', h3, ?_, h5⟩
    obtain ⟨_, _, _, _, _, _, h6⟩ := h3
    omega
theorem NearL.add {Wn Hn a b j i : Nat} {L : List Nat} (h : NearL Wn Hn a b j i L) (hn : NearP Wn Hn a b i j) : NearL Wn Hn a b j (i + 1) (L ++ [j * Wn + i]) := fun n => by
  rw [List.mem_append, h n]
  constructor
  · rintro (⟨i', j', h1, h2, h3⟩ | h1)
    · exact ⟨i', j', h1, by omega, h3⟩
    · exact ⟨i, j, hn, by omega, by simpa using h1⟩
  · rintro ⟨i', j', h1, h2, h3⟩
    by_cases e : j' = j ∧ i' = i
    · obtain ⟨rfl, rfl⟩ := e
      exact .inr (by simp [h3])
    · exact .inl ⟨i', j', h1, by omega, h3⟩
theorem NearL.done {Wn Hn k j : Nat} {L : List Nat} (h : NearL Wn Hn (k % Wn) (k / Wn) j 0 L) (hj : min (Hn - 1) (k / Wn + 1) < j) : ∀ n, n ∈ L ↔ ∃ d, d < 8 ∧ nbr Wn Hn k d = some n := fun n => by
  rw [h n, near_nbr]
  constructor
  · rintro ⟨i', j', h1, _, h3⟩
    exact ⟨i', j', h1, h3⟩
  · rintro ⟨i', j', h1, h3⟩
    refine ⟨i', j', h1, ?_, h3⟩
    obtain ⟨_, h4, _, _, _, h5, _⟩ := h1
    omega

/-- what beside holds -/
structure BE (W0 w : World) (hr : Nat) (X Y : Int) (Wn Hn : Nat) (v : Value) (L : List Nat) : Prop where
  rb : Bk w hr 23 #[.int .i64 X, .int .i64 Y, .int .i64 (Wn : Int), .int .i64 (Hn : Int)]
  own : OwnN w W0.heap.size v L
  ext : Ext W0 w
theorem BE.step {W0 w : World} {hr : Nat} {X Y : Int} {Wn Hn : Nat} {v : Value} {L : List Nat} (h : BE W0 w hr X Y Wn Hn v L) {w' : World} (hx : Ext w w') : BE W0 w' hr X Y Wn Hn v L := ⟨h.rb.ext hx, h.own.ext hx, h.ext.trans hx⟩
theorem BE.app {W0 w : World} {hr : Nat} {X Y : Int} {Wn Hn : Nat} {v : Value} {L : List Nat} (h : BE W0 w hr X Y Wn Hn v L) {w' : World} {v' : Value} {i : Nat} (hg : w.grownBy w' v.ownBlock) (ho : w'.ownsRow W0.heap.size 3 1 v' (L.length + 1) (nats L ++ [.int .i64 (i : Int)])) : BE W0 w' hr X Y Wn Hn v' (L ++ [i]) :=
  ⟨h.rb.grown hg (own_ne h.own h.rb (by decide)), OwnN.snoc ho, h.ext.grown hg (fun q he => (World.ownsRow.lt h.own q he).1)⟩
set_option maxRecDepth 100000 in
set_option maxHeartbeats 6400000 in
theorem besideT_any (X Y : Int) (Wn Hn k : Nat) (w : World) (hr : Reg X Y Wn Hn) (hk : k < Wn * Hn) :
    Calls Try.prog 11 #[rgv X Y Wn Hn, .int .i64 (k : Int)] w fun e w' => ∃ v L, e = .returned v ∧ OwnN w' w.heap.size v L ∧ (∀ n, n ∈ L ↔ ∃ d, d < 8 ∧ nbr Wn Hn k d = some n) ∧ L.length ≤ 16 ∧ Ext w w' := by
  obtain ⟨f1, f2⟩ := grid_facts hr.w1 hk
  have hk6 : k < 65536 := Nat.lt_of_lt_of_le hk hr.n
  have z1 := hr.w1
  have z2 := hr.w2
  have z3 := hr.h2
  have Hfin := hidA (fun (j : Nat) (L : List Nat) => NearL.done (Wn := Wn) (Hn := Hn) (k := k) (j := j) (L := L))
  have e1 := hidA (show (k : Int) % (Wn : Int) = ((k % Wn : Nat) : Int) from rfl)
  have e2 := hidA (show (k : Int) / (Wn : Int) = ((k / Wn : Nat) : Int) from rfl)
  obtain ⟨Q, hQ⟩ : ∃ Q : Nat → Prop, Q = fun n => ∃ d, d < 8 ∧ nbr Wn Hn k d = some n := ⟨_, rfl⟩
  have hQ' : ∀ n, Q n = ∃ d, d < 8 ∧ nbr Wn Hn k d = some n := fun n => by rw [hQ]
  simp only [← hQ'] at Hfin ⊢
  clear hQ hQ'
  generalize k % Wn = a at *
  generalize k / Wn = b at *
  have q1 : wrap64 (b : Int) = b := IntWalk.wrap64_in _ ⟨by omega, by omega⟩
  have q4 : IntKind.i64.wrap (b : Int) = b := IntWalk.i64_in _ ⟨by omega, by omega⟩
  clear hr hk
  have y1 : (1 : Int) ≤ Wn := by omega
  have y2 : (0 : Int) ≤ k := by omega
  have t1 : ((k : Int).tmod (Wn : Int)) = (a : Int) := by rw [Int.tmod_eq_emod_of_nonneg (by omega), e1.out]
  have t2 : ((k : Int).tdiv (Wn : Int)) = (b : Int) := by rw [Int.tdiv_eq_ediv_of_nonneg (by omega), e2.out]
  have t3 : (Wn = 0) = False := by simp; omega
  clear e1 e2
  obtain ⟨i0, hi0, hz0, hz1, hz2⟩ := info_parts infoIntW
  unfold rgv
  go_enter Try.func11, Try.ntmps11
  go_upto_region 2 with fail
  have kR : Bk (w.alloc (.cells #[.int .i64 X, .int .i64 Y, .int .i64 (Wn : Int), .int .i64 (Hn : Int)] 23)) w.heap.size 23 #[.int .i64 X, .int .i64 Y, .int .i64 (Wn : Int), .int .i64 (Hn : Int)] := Bk.new' rfl
  have hx0 : Ext w (w.alloc (.cells #[.int .i64 X, .int .i64 Y, .int .i64 (Wn : Int), .int .i64 (Hn : Int)] 23)) := (Ext.refl w).alloc _
  generalize w.alloc (.cells #[.int .i64 X, .int .i64 Y, .int .i64 (Wn : Int), .int .i64 (Hn : Int)] 23) = w0 at *
  generalize hh0 : w.heap.size = h0 at *
  have c2 := kR.cell 2
  go_quiet (fail)
  have hxq : Ext w0 (w0.drewN nq) := Ext.drewN (Ext.refl _) _
  have hS : BE w (w0.drewN nq) h0 X Y Wn Hn (.slice none 0 0) [] := ⟨kR.ext hxq, OwnN.nil _ _, hx0.trans hxq⟩
  have Hh0 := hidA hh0
  clear c2 t1 t2 hx0 kR hxq hh0
  generalize w0.drewN nq = w2 at *
  obtain ⟨J, hJ⟩ : ∃ J, J = min (Hn - 1) (b + 1) := ⟨_, rfl⟩
  obtain ⟨I, hI⟩ : ∃ I, I = min (Wn - 1) (a + 1) := ⟨_, rfl⟩
  have m1 : max (0 : Int) ((b : Int) - 1) = ((b - 1 : Nat) : Int) := by omega
  have m2 : min ((Hn : Int) - 1) ((b : Int) + 1) = (J : Int) := by omega
  have m3 : max (0 : Int) ((a : Int) - 1) = ((a - 1 : Nat) : Int) := by omega
  have m4 : min ((Wn : Int) - 1) ((a : Int) + 1) = (I : Int) := by omega
  have HI := hidA hI
  have HJ := hidA hJ
  have bI : I ≤ a + 1 := by omega
  have bJ : J ≤ b + 1 := by omega
  have bI2 : I < Wn := by omega
  have bJ2 : J < Hn := by omega
  clear hI hJ
  go_wp2_with fail
  go_loopw [5, 8] (fun s5 s8 wr => ∃ (L : List Nat) (j : Nat), b - 1 ≤ j ∧ j ≤ J + 1 ∧ s8 = .int .i64 j ∧ BE w wr h0 X Y Wn Hn s5 L ∧ NearL Wn Hn a b j 0 L ∧ L.length ≤ 3 * (j - (b - 1))) (fun _ s8 _ => Hn + 2 - (intOf s8).toNat)
  case atStart => exact ⟨[], b - 1, Nat.le_refl _, by omega, by first | rfl | (exact congrArg (Value.int .i64) (by omega)), hS, NearL.nil, by simp⟩
  case round =>
    clear hS
    obtain ⟨L, j, hj1, hj2, rfl, hS, hN, hlen⟩ := hrel
    have c3 := hS.rb.cell 3
    by_cases hjJ : j ≤ J
    · have j1 : (j : Int) ≤ (J : Int) := by omega
      have Hlen := hidA hlen
      have HN := hidA hN.start
      clear hlen hN
      go_wp2_with fail
      clear c3
      obtain ⟨wo, hwo⟩ : ∃ wo, wo = wr := ⟨_, rfl⟩
      clear hwo
      go_loopw [5, 9] (fun s5 s9 wy => ∃ (L : List Nat) (i : Nat), a - 1 ≤ i ∧ i ≤ I + 1 ∧ s9 = .int .i64 i ∧ BE w wy h0 X Y Wn Hn s5 L ∧ NearL Wn Hn a b j i L ∧ L.length ≤ 3 * (j - (b - 1)) + (i - (a - 1))) (fun _ s9 _ => Wn + 2 - (intOf s9).toNat)
      case atStart => exact ⟨L, a - 1, Nat.le_refl _, by omega, by first | rfl | (exact congrArg (Value.int .i64) (by omega)), hS, HN.out, by have := Hlen.out; omega⟩
      case round =>
        clear hS
        obtain ⟨L, i, hi1, hi2, rfl, hS, hN, hlen⟩ := hrel
        have c2 := hS.rb.cell 2
        have Hlen := hidA hlen
        have HN := hidA hN
        clear hlen hN
        by_cases hiI : i ≤ I
        · have i1 : (i : Int) ≤ (I : Int) := by omega
          by_cases hs : i = a ∧ j = b
          · obtain ⟨rfl, rfl⟩ := hs
            have HN2 := hidA (HN.out.skip rfl rfl)
            go_wp2_with fail
            go_roundw
            case rel => exact ⟨L, i + 1, by omega, by omega, by go_num, hS, HN2.out, by have := Hlen.out; omega⟩
            case measure => simp [intOf] <;> omega
          · have HN2 := hidA (HN.out.add ⟨by omega, by omega, by omega, by omega, by omega, by omega, by omega⟩)
            have hll := Hlen.out
            have w2' : (j : Int) * (Wn : Int) = ((j * Wn : Nat) : Int) := by rw [Int.natCast_mul]
            have hjw : j * Wn ≤ 512 * 512 := Nat.mul_le_mul (by omega) (by omega)
            generalize hjt : j * Wn = t at *
            have hA3 := hidA (show (wr.alloc (.cells #[.int .i64 ((t : Int) + (i : Int))] 3)).ownsRow w.heap.size 3 1 u5 L.length (nats L) from hS.own.ext ((Ext.refl _).alloc _))
            have hN3 := hidA (show ∀ j u, [Value.int .i64 ((t : Int) + (i : Int))][j]? = some u → (wr.alloc (.cells #[.int .i64 ((t : Int) + (i : Int))] 3)).cell? ((⟨wr.heap.size, 0, none⟩ : Addr).add j) = some u from World.news_of_block (cs := #[.int .i64 ((t : Int) + (i : Int))]) (t := 3) (fr := (0, 0)) (Bk.new' rfl))
            have hone := hidA (show ∀ u ∈ [Value.int .i64 ((t : Int) + (i : Int))], u.oneCell' = true from by intro u hu; simp at hu; subst hu; rfl)
            have hs3 := hidA (show w.heap.size ≤ (wr.alloc (.cells #[.int .i64 ((t : Int) + (i : Int))] 3)).heap.size from by have := hS.ext.size; simp; omega)
            have Hst := hidA (hS.step ((Ext.refl wr).alloc (.cells #[.int .i64 ((t : Int) + (i : Int))] 3)))
            by_cases hia : i = a
            · subst hia
              have hjb : ¬ ((j : Int) = (b : Int)) := by omega
              go_upto_region 10 with fail
              clear hS
              go_wp2_with (at_builtin; (refine wpList_append_own _ (by rfl) _ _ 32 (by rfl) w.heap.size 3 i0 (.int .i64 0) 1 8 Try.underlying32 hi0 hz0 hz1 hz2 rfl (by decide) u5 L.length (nats L) (by rfl) hA3.out ⟨wr.heap.size, 0, none⟩ 1 1 [.int .i64 ((t : Int) + (i : Int))] (by rfl) (by rfl) hN3.out hone.out (by unfold maxLen; omega) (by omega) hs3.out ?_; intro v4 w4 hown4 hgrow4 _))
              have hS4 := Hst.out.app (i := t + i) hgrow4 hown4
              clear hA3 hN3 hone hs3 Hst hgrow4 hown4
              go_wp2_with fail
              go_roundw
              case rel => exact ⟨L ++ [t + i], i + 1, by omega, by omega, by go_num, hS4, HN2.out, by rw [List.length_append, List.length_singleton]; omega⟩
              case measure => simp [intOf] <;> omega
            · have hia' : ¬ ((i : Int) = (a : Int)) := by omega
              go_upto_region 10 with fail
              clear hS
              go_wp2_with (at_builtin; (refine wpList_append_own _ (by rfl) _ _ 32 (by rfl) w.heap.size 3 i0 (.int .i64 0) 1 8 Try.underlying32 hi0 hz0 hz1 hz2 rfl (by decide) u5 L.length (nats L) (by rfl) hA3.out ⟨wr.heap.size, 0, none⟩ 1 1 [.int .i64 ((t : Int) + (i : Int))] (by rfl) (by rfl) hN3.out hone.out (by unfold maxLen; omega) (by omega) hs3.out ?_; intro v4 w4 hown4 hgrow4 _))
              have hS4 := Hst.out.app (i := t + i) hgrow4 hown4
              clear hA3 hN3 hone hs3 Hst hgrow4 hown4
              go_wp2_with fail
              go_roundw
              case rel => exact ⟨L ++ [t + i], i + 1, by omega, by omega, by go_num, hS4, HN2.out, by rw [List.length_append, List.length_singleton]; omega⟩
              case measure => simp [intOf] <;> omega
        · have i1 : ¬ ((i : Int) ≤ (I : Int)) := by omega
          have HN3 := hidA (HN.out.fin (by rw [← HI.out]; omega))
          have hll := Hlen.out
          go_wp2_with fail
          go_roundw
          case rel => exact ⟨L, j + 1, by omega, by omega, by go_num, hS, HN3.out, by omega⟩
          case measure => simp [intOf] <;> omega
    · have j1 : ¬ ((j : Int) ≤ (J : Int)) := by omega
      have hmem := hidA (Hfin.out j L hN (by rw [← HJ.out]; omega))
      go_wp2_with fail
      go_ret
      have hl16 : L.length ≤ 16 := by omega
      exact ⟨_, rfl, L, hS.own, hmem.out, hl16, hS.ext⟩
end Go.Proofs.Ytepgfplbkmhgbaa

namespace Go.Proofs.Ytepgfplbkmhgbaa
open Go.RowKit
attribute [local go_sem ↓] Go.wp_at_zero Go.wp_at_succ
attribute [local go_sem] run_store_float

theorem flt_gd {l : List Nat} {k : Nat} (hk : k < l.length) : l[k] = l.getD k 0 := by simp [List.getD_eq_getElem?_getD, hk]
theorem nxt_none_neg {Wn Hn N : Nat} {D : Nat → Int} {m : Nat → Nat} {k : Nat} (h : Lead Wn Hn N D m) (hk : k < N) (e : nxtD D Wn Hn k = none) : D k < 0 := by
  by_cases h0 : D k < 0
  · exact h0
  · obtain ⟨n, h1, _⟩ := h.step k hk (by omega)
    unfold nxtD at e
    rw [if_neg h0, h1] at e
    cases e
theorem nxt_some_pos {Wn Hn N : Nat} {D : Nat → Int} {m : Nat → Nat} {k n : Nat} (_h : Lead Wn Hn N D m) (_hk : k < N) (e : nxtD D Wn Hn k = some n) : 0 ≤ D k ∧ nbr Wn Hn k (D k).toNat = some n := by
  by_cases h0 : D k < 0
  · unfold nxtD at e
    rw [if_pos h0] at e
    cases e
  · unfold nxtD at e
    rw [if_neg h0] at e
    exact ⟨by omega, e⟩
theorem slope_zero : slopeE 0 = 0 := by decide +kernel
theorem fillE_zero (x y ww hh : Int) (l : List Nat) : fillE x y ww hh l 0 = fieldE x y ww hh l := by
  unfold fillE
  rw [slope_zero]
  split
  · rfl
  · rename_i h
    simp at h
    exact h.symm
/-- filled ground, whose heights are a list -/
theorem Filled_zero (X Y : Int) (Wn Hn N : Nat) (A : Option Addr) (c : Nat) (l : List Nat) (w : World) (hr : Reg X Y Wn Hn) (hN : N = Wn * Hn) (hl : l.length = N) (hV : Rd w A (flt l)) (hf : fieldE X Y Wn Hn l = 0) :
    Calls Try.prog 7 #[.agg #[.int .i64 X, .int .i64 Y, .int .i64 (Wn : Int), .int .i64 (Hn : Int), .slice A N c], .float .f32 0] w fun e w' => ∃ g vL, e = .returned (.tuple #[.agg #[.int .i64 X, .int .i64 Y, .int .i64 (Wn : Int), .int .i64 (Hn : Int), .slice (some ⟨g, 0, none⟩) N N], .int .i64 0]) ∧ vL.length = N ∧ Rd w' (some ⟨g, 0, none⟩) (flt vL) ∧ LeastG Wn Hn (fun k => l.getD k 0) 0 (fun k => valI (vL.getD k 0)) ∧ (∀ k, k < N → Bd 20 (vL.getD k 0)) ∧ fieldE X Y Wn Hn vL = 0 ∧ Ext w w' := by
  refine (Filled_ok X Y Wn Hn N A c 0 l w hr hN hl hV hf slope_zero).mono ?_
  rintro e w' ⟨g, out, hg, hB, hL, _, hx, hcase⟩
  obtain ⟨h1, h2, h3⟩ := field_reg hf
  have hbd := getD_bd hl (fun x hx => hgt_bd ((numE_zero h3).2 x hx))
  have hb : ∀ k, k < N → Bd 20 (out k) := fun k hk => fill_bd (fun k hk => hbd k (by rw [hN]; exact hk)) hL k (by rw [← hN]; exact hk)
  have he : ∀ k, k < N → ((List.range N).map out).getD k 0 = out k := fun k hk => by simp [List.getD_eq_getElem?_getD, hk]
  have hall : ((List.range N).map out).all hgtB = true := by
    rw [List.all_eq_true]
    intro x hx
    obtain ⟨k, hk, rfl⟩ := List.mem_map.1 hx
    exact bd_hgt (hb k (List.mem_range.1 hk)) (by omega)
  rcases hcase with ⟨_, rfl⟩ | ⟨h, _⟩
  · refine ⟨g, (List.range N).map out, rfl, by simp, ?_, least_congr hL fun k hk => ?_, fun k hk => ?_, ?_, hx⟩
    · have h := Rd.new_bk hB
      rwa [flo_list] at h
    · rw [he k (by rw [hN]; exact hk)]
    · rw [he k hk]
      exact hb k hk
    · rw [fieldE_num h1 (by simp [hN])]
      exact numE_all hall
  · rw [hall] at h
    cases h
set_option maxRecDepth 100000 in
set_option maxHeartbeats 3200000 in
theorem tdrain_bad (x y ww hh : Int) (A : Option Addr) (n c : Nat) (k : Int) (l : List Nat) (w : World) (hn : l.length = n) (hd : Rd w A (flt l)) (hb : n ≤ 140737488351232) (hE : fieldE x y ww hh l ≠ 0) :
    Calls Try.prog 3 #[.agg #[.int .i64 x, .int .i64 y, .int .i64 ww, .int .i64 hh, .slice A n c], .int .i64 k] w fun e w' => e = .returned (.bool true) ∧ Ext w w' := by
  have HF := fun (w : World) (h : Rd w A (flt l)) => hidA (Filled_bad x y ww hh A n c 0 l w hn h hb (by rw [fillE_zero]; exact hE))
  rw [fillE_zero] at HF
  have HD := fun (w : World) (h : Rd w A (flt l)) => hidA (Drain_bad x y ww hh A n c l w hn h hb hE)
  have HW := fun (w : World) => hidA (landed_any w)
  have hE' : (fieldE x y ww hh l != 0) = true := by simpa using hE
  generalize fieldE x y ww hh l = E at *
  clear hn hb hE
  have kF : Bk (w.alloc (.cells #[.int .i64 x, .int .i64 y, .int .i64 ww, .int .i64 hh, .slice A n c] 26)) w.heap.size 26 #[.int .i64 x, .int .i64 y, .int .i64 ww, .int .i64 hh, .slice A n c] := Bk.new' rfl
  have hx0 : Ext w (w.alloc (.cells #[.int .i64 x, .int .i64 y, .int .i64 ww, .int .i64 hh, .slice A n c] 26)) := (Ext.refl w).alloc _
  go_enter Try.func3, Try.ntmps3
  go_upto_region 3 with (go_at_call 6; refine ((HW _).out).mono ?_; rintro e w1 ⟨rfl, hx1⟩)
  have kF1 := kF.ext hx1
  have hx1' := hx0.trans hx1
  clear kF hx0 hx1 HW
  generalize w.heap.size = h0 at *
  have c0 := kF1.cell 0
  have c1 := kF1.cell 1
  have c2 := kF1.cell 2
  have c3 := kF1.cell 3
  have c4 := kF1.cell 4
  go_upto_region 4 with (go_at_call 7; refine ((HF _ (hd.ext hx1')).out).mono ?_; rintro e w2 ⟨rfl, hx2⟩)
  have hx3 : Ext w2 (w2.alloc (.cells #[.int .i64 0, .int .i64 0, .int .i64 0, .int .i64 0, .slice none 0 0] 26)) := (Ext.refl w2).alloc _
  have kF2 := (kF1.ext hx2).ext hx3
  have hx2' := (hx1'.trans hx2).trans hx3
  clear c0 c1 c2 c3 c4 kF1 hx1' hx2 hx3
  generalize (w2.alloc (.cells #[.int .i64 0, .int .i64 0, .int .i64 0, .int .i64 0, .slice none 0 0] 26)) = w3 at *
  have c0 := kF2.cell 0
  have c1 := kF2.cell 1
  have c2 := kF2.cell 2
  have c3 := kF2.cell 3
  have c4 := kF2.cell 4
  go_wp2_with (go_at_call 8; refine ((HD _ (hd.ext hx2')).out).mono ?_; rintro e w4 ⟨rfl, hx4⟩)
  go_ret
  exact ⟨by first | rfl | simp, hx2'.trans hx4⟩
set_option maxRecDepth 100000 in
set_option maxHeartbeats 12800000 in
theorem tdrain_good (X Y : Int) (Wn Hn N : Nat) (A : Option Addr) (c : Nat) (kk : Int) (l : List Nat) (w : World) (hr : Reg X Y Wn Hn) (hN : N = Wn * Hn) (hn : l.length = N) (hd : Rd w A (flt l)) (hf : fieldE X Y Wn Hn l = 0) :
    Calls Try.prog 3 #[.agg #[.int .i64 X, .int .i64 Y, .int .i64 (Wn : Int), .int .i64 (Hn : Int), .slice A N c], .int .i64 kk] w fun e w' => e = .returned (.bool true) ∧ Ext w w' := by
  have hN6 : N ≤ 65536 := by rw [hN]; exact hr.n
  have hN1 : 1 ≤ N := by rw [hN]; exact Nat.mul_pos hr.w1 hr.h1
  have hr0 := (field_reg hf).1
  have hbd := getD_bd hn (fun x hx => hgt_bd ((numE_zero (field_reg hf).2.2).2 x hx))
  have hbW : ∀ k, k < Wn * Hn → Bd 20 (l.getD k 0) := by rw [← hN]; exact hbd
  obtain ⟨ad, rfl, hadb, _⟩ := hd.at (k := 0) (by rw [flt_length]; omega)
  clear hadb
  have HF := fun (w : World) (h : Rd w (some ad) (flt l)) => hidA (Filled_zero X Y Wn Hn N (some ad) c l w hr hN hn h hf)
  have HF2 := hidA (fun (g : Nat) (v : List Nat) (w : World) (hv : v.length = N) (h : Rd w (some ⟨g, 0, none⟩) (flt v)) (hfv : fieldE X Y Wn Hn v = 0) => Filled_zero X Y Wn Hn N (some ⟨g, 0, none⟩) N v w hr hN hv h hfv)
  have HD := fun (w : World) (h : Rd w (some ad) (flt l)) => hidA (Drain_ok X Y Wn Hn N (some ad) c l w hr hN hn h hf)
  have HW := fun (w : World) => hidA (landed_any w)
  have HLe := hidA (fun (v : List Nat) (h : LeastG Wn Hn (fun k => l.getD k 0) 0 (fun k => valI (v.getD k 0))) => fill_again (v := fun k => v.getD k 0) hbW h)
  have Hov := hidA (fun (v : List Nat) (h : LeastG Wn Hn (fun k => l.getD k 0) 0 (fun k => valI (v.getD k 0))) (k : Nat) (hk : k < N) => fill_over (v := fun k => v.getD k 0) h (show k < Wn * Hn by rw [← hN]; exact hk))
  have Hbe := hidA (fun (v : List Nat) (h : LeastG Wn Hn (fun k => l.getD k 0) 0 (fun k => valI (v.getD k 0))) (k : Nat) (hk : k < N) => fill_beside (v := fun k => v.getD k 0) hr.w1 hbW h (show k < Wn * Hn by rw [← hN]; exact hk))
  have Hld := hidA (fun (v : Nat → Nat) (h : LeastG Wn Hn (fun k => l.getD k 0) 0 (fun k => valI (v k))) => drn_lead hr.w1 hN hN1 hbd (fun k hk => fill_bd hbW h k (by rw [← hN]; exact hk)) h)
  have HNx := hidA (fun (gd k : Nat) (D : Nat → Int) (m : Nat → Nat) (w : World) (hk : k < N) (hD : DirsAt w (some ⟨gd, 0, none⟩) N D) (hL : Lead Wn Hn N D m) => Next_ok X Y Wn Hn N N k (some ⟨gd, 0, none⟩) D m w hr hr0 hN hD hL hk)
  have HBs := hidA (fun (k : Nat) (w : World) (hk : k < N) => besideT_any X Y Wn Hn k w hr (by rw [← hN]; exact hk))
  unfold rgv at HNx HBs
  have Hbd := hidA hbd
  have HN := hidA hN
  have Hr := hidA hr
  have Hln := hidA hn
  clear hr0 hbd hbW hf hn hN hr
  have kF : Bk (w.alloc (.cells #[.int .i64 X, .int .i64 Y, .int .i64 (Wn : Int), .int .i64 (Hn : Int), .slice (some ad) N c] 26)) w.heap.size 26 #[.int .i64 X, .int .i64 Y, .int .i64 (Wn : Int), .int .i64 (Hn : Int), .slice (some ad) N c] := Bk.new' rfl
  have hx0 : Ext w (w.alloc (.cells #[.int .i64 X, .int .i64 Y, .int .i64 (Wn : Int), .int .i64 (Hn : Int), .slice (some ad) N c] 26)) := (Ext.refl w).alloc _
  go_enter Try.func3, Try.ntmps3
  go_upto_region 3 with (go_at_call 6; refine ((HW _).out).mono ?_; rintro e w1 ⟨rfl, hx1⟩)
  have kF1 := kF.ext hx1
  have hx1' := hx0.trans hx1
  clear kF hx0 hx1 HW
  generalize w.heap.size = h0 at *
  have c0 := kF1.cell 0
  have c1 := kF1.cell 1
  have c2 := kF1.cell 2
  have c3 := kF1.cell 3
  have c4 := kF1.cell 4
  go_upto_region 4 with (go_at_call 7; refine ((HF _ (hd.ext hx1')).out).mono ?_; rintro e w2 ⟨gv, vL, rfl, hvl, hV, hL, hvb, hfv, hx2⟩)
  have hx3 : Ext w2 (w2.alloc (.cells #[.int .i64 X, .int .i64 Y, .int .i64 (Wn : Int), .int .i64 (Hn : Int), .slice (some ⟨gv, 0, none⟩) N N] 26)) := (Ext.refl w2).alloc _
  have kG : Bk (w2.alloc (.cells #[.int .i64 X, .int .i64 Y, .int .i64 (Wn : Int), .int .i64 (Hn : Int), .slice (some ⟨gv, 0, none⟩) N N] 26)) w2.heap.size 26 #[.int .i64 X, .int .i64 Y, .int .i64 (Wn : Int), .int .i64 (Hn : Int), .slice (some ⟨gv, 0, none⟩) N N] := Bk.new' rfl
  have kF2 := (kF1.ext hx2).ext hx3
  have hV2 := hV.ext hx3
  have hx2' := (hx1'.trans hx2).trans hx3
  have HL := hidA hL
  have Hvb := hidA hvb
  have Hvl := hidA hvl
  have HF3 := hidA (fun (w : World) (h : Rd w (some ⟨gv, 0, none⟩) (flt vL)) => HF2.out gv vL w hvl h hfv)
  clear c0 c1 c2 c3 c4 kF1 hx1' hx2 hx3 hV hL hvb hvl hfv HF HF2
  generalize (w2.alloc (.cells #[.int .i64 X, .int .i64 Y, .int .i64 (Wn : Int), .int .i64 (Hn : Int), .slice (some ⟨gv, 0, none⟩) N N] 26)) = w3 at *
  generalize w2.heap.size = hg at *
  have c0 := kF2.cell 0
  have c1 := kF2.cell 1
  have c2 := kF2.cell 2
  have c3 := kF2.cell 3
  have c4 := kF2.cell 4
  go_upto_region 5 with (go_at_call 8; refine ((HD _ (hd.ext hx2')).out).mono ?_; rintro e w4 ⟨gd, vf, rfl, hLf, hB, hx4⟩)
  obtain ⟨D, hDe⟩ : ∃ D, D = drnV vf (rkV vf Wn Hn (N - 1)) Wn Hn := ⟨_, rfl⟩
  obtain ⟨hlead, hfall⟩ := Hld.out vf hLf
  rw [← hDe] at hlead hfall hB
  have HDs := hidA (DirsAt.of_bk hB)
  have Heq := hidA (fun k (hk : k < N) => hLf.unique HL.out (show k < Wn * Hn by rw [← HN.out]; exact hk))
  obtain ⟨m, hm⟩ : ∃ m, m = fun k => cntB (fun j => lowB vf (rkV vf Wn Hn (N - 1)) j k) N := ⟨_, rfl⟩
  rw [← hm] at hlead
  have HmN := hidA (fun k => show m k ≤ N by rw [hm]; exact cntB_le _ _)
  have HLd := hidA hlead
  have Hfl := hidA (fun k n (hk : k < N) (h0 : 0 ≤ D k) (hn : nbr Wn Hn k (D k).toNat = some n) => show valI (vL.getD n 0) ≤ valI (vL.getD k 0) from by
    have h1 := hfall k n hk h0 hn
    have h2 := Heq.out k hk
    have h3 := Heq.out n (by rw [HN.out]; exact nbr_lt hn)
    omega)
  have kF4 := kF2.ext hx4
  have kG4 := kG.ext hx4
  have hV4 := hV2.ext hx4
  have hx4' := hx2'.trans hx4
  have hDs := HDs.out
  clear c0 c1 c2 c3 c4 kF2 kG hV2 hx2' hx4 hLf hB hDe hlead hfall hm HD HDs
  go_upto_region 7 with fail
  have g0 := kG4.cell 0
  have g1 := kG4.cell 1
  have g2 := kG4.cell 2
  have g3 := kG4.cell 3
  have g4 := kG4.cell 4
  go_upto_region 8 with (go_at_call 7; refine (HF3.out _ hV4).mono ?_; rintro e w5 ⟨gw, vM, rfl, hwl, hW5, hLw, hwb, _, hx5⟩)
  have hx6 : Ext w5 (w5.alloc (.cells #[.int .i64 X, .int .i64 Y, .int .i64 (Wn : Int), .int .i64 (Hn : Int), .slice (some ⟨gw, 0, none⟩) N N] 26)) := (Ext.refl w5).alloc _
  have kH : Bk (w5.alloc (.cells #[.int .i64 X, .int .i64 Y, .int .i64 (Wn : Int), .int .i64 (Hn : Int), .slice (some ⟨gw, 0, none⟩) N N] 26)) w5.heap.size 26 #[.int .i64 X, .int .i64 Y, .int .i64 (Wn : Int), .int .i64 (Hn : Int), .slice (some ⟨gw, 0, none⟩) N N] := Bk.new' rfl
  have HE := hidA (fun k (h1 : k < vL.length) (h2 : k < vM.length) => show (FloatKind.f32.format.order vL[k] vM[k] == some .eq) = true from by
    have hk : k < N := by rw [← Hvl.out]; exact h1
    have h3 := (HLe.out vL HL.out).unique hLw (show k < Wn * Hn by rw [← HN.out]; exact hk)
    have e1 : vL[k] = vL.getD k 0 := by simp [List.getD_eq_getElem?_getD, h1]
    have e2 : vM[k] = vM.getD k 0 := by simp [List.getD_eq_getElem?_getD, h2]
    have o := ord_valI (bd_Fin (Hvb.out k hk) (by omega)) (bd_Fin (hwb k hk) (by omega))
    rw [e1, e2, ord_def, o, h3]
    simp)
  have hx56 := hx5.trans hx6
  have kF6 := kF4.ext hx56
  have kG6 := kG4.ext hx56
  have hV6 := hV4.ext hx56
  have hD6 := hDs.ext hx56
  have hW6 := hW5.ext hx6
  have hx6' := hx4'.trans hx56
  have HQ := fun (w' : World) (h1 : Rd w' (some ⟨gv, 0, none⟩) (flt vL)) (h2 : Rd w' (some ⟨gw, 0, none⟩) (flt vM)) => hidA (eqFlo_same (some ⟨gv, 0, none⟩) (some ⟨gw, 0, none⟩) N N N vL vM w' Hvl.out hwl h1 h2 (by omega) HE.out)
  clear g0 g1 g2 g3 g4 kF4 kG4 hV4 hDs hW5 hx4' hx5 hx6 hx56 hLw hwb hwl HE HF3 HLe
  generalize (w5.alloc (.cells #[.int .i64 X, .int .i64 Y, .int .i64 (Wn : Int), .int .i64 (Hn : Int), .slice (some ⟨gw, 0, none⟩) N N] 26)) = w6 at *
  generalize w5.heap.size = hh at *
  have g4 : w6.cell? ⟨hg, 4, none⟩ = some (.slice (some ⟨gv, 0, none⟩) N N) := kG6.cell 4
  have k4 : w6.cell? ⟨hh, 4, none⟩ = some (.slice (some ⟨gw, 0, none⟩) N N) := kH.cell 4
  go_upto_region 10 with (go_at_call 9; refine ((HQ _ hV6 hW6).out).mono ?_; rintro e w7 ⟨rfl, hx7⟩)
  have kF5 := kF6.ext hx7
  have kG5 := kG6.ext hx7
  have hV5 := hV6.ext hx7
  have hD5 := hD6.ext hx7
  have hxw := hx6'.trans hx7
  clear g4 k4 kF6 kG6 kH hV6 hD6 hW6 hx6' hx7 HQ
  have Hrv := hidA (fun (w' : World) (h : Ext w7 w') (j : Nat) (hj : j < N) => show w'.cell? ⟨gv, j, none⟩ = some (.float .f32 (vL.getD j 0)) from by
    have h1 := (hV5.ext h).reads j _ (flt_get (l := vL) (by rw [Hvl.out]; exact hj))
    rw [lit_add, flt_gd] at h1
    exact h1)
  have Hrl := hidA (fun (w' : World) (h : Ext w7 w') (j : Nat) (hj : j < N) => show w'.cell? (ad.add j) = some (.float .f32 (l.getD j 0)) from by
    have h1 := (hd.ext (hxw.trans h)).reads j _ (flt_get (l := l) (by rw [Hln.out]; exact hj))
    rw [flt_gd] at h1
    exact h1)
  have Hlt := hidA (fun (k : Nat) (hk : k < N) => show (FloatKind.f32.format.order (vL.getD k 0) (l.getD k 0) == some .lt) = false from by
    have h1 := Hov.out vL HL.out k hk
    have h2 := lt_val (bd_Fin (Hvb.out k hk) (by omega)) (bd_Fin (Hbd.out k hk) (by omega))
    unfold lt at h2
    rw [h2]
    exact decide_eq_false (by omega))
  have Hgt := hidA (fun (k n : Nat) (hk : k < N) (hn : n < N) (h : valI (vL.getD n 0) ≤ valI (vL.getD k 0)) => show (FloatKind.f32.format.order (vL.getD n 0) (vL.getD k 0) == some .gt) = false from by
    have h2 := gt_val (bd_Fin (Hvb.out n hn) (by omega)) (bd_Fin (Hvb.out k hk) (by omega))
    unfold gt at h2
    rw [h2]
    exact decide_eq_false (by omega))
  clear hV5
  have f4 : w7.cell? ⟨h0, 4, none⟩ = some (.slice (some ad) N c) := kF5.cell 4
  go_wp2_with fail
  clear f4
  go_loopw [62] (fun s62 wr => ∃ (k : Nat), k ≤ N ∧ s62 = .int .i64 k ∧ Ext w7 wr) (fun s62 _ => N - (intOf s62).toNat)
  case atStart => exact ⟨0, Nat.zero_le _, rfl, Ext.refl _⟩
  case round =>
    obtain ⟨k, hk, rfl, hxr⟩ := hrel
    by_cases hkN : k < N
    · have i1 : (0 : Int) ≤ k := by omega
      have i2 : (k : Int) < N := by omega
      have q0 := Hrv.out wr hxr k hkN
      have q1 := Hrl.out wr hxr k hkN
      have hlt := Hlt.out k hkN
      have p4 : wr.cell? ⟨h0, 4, none⟩ = some (.slice (some ad) N c) := (kF5.ext hxr).cell 4
      have r4 : wr.cell? ⟨hg, 4, none⟩ = some (.slice (some ⟨gv, 0, none⟩) N N) := (kG5.ext hxr).cell 4
      have hgf := grid_facts Hr.out.w1 (show k < Wn * Hn by rw [← HN.out]; exact hkN)
      have e1 := hidA (show (k : Int) % (Wn : Int) = ((k % Wn : Nat) : Int) from rfl)
      have e2 := hidA (show (k : Int) / (Wn : Int) = ((k / Wn : Nat) : Int) from rfl)
      have ec := hidA (show colK X Wn k = X + ((k % Wn : Nat) : Int) from rfl)
      have er := hidA (show rowK Y Wn k = Y + ((k / Wn : Nat) : Int) from rfl)
      generalize hva : vL.getD k 0 = va at q0 hlt
      generalize l.getD k 0 = vb at q1 hlt
      have Hva := hidA hva
      clear hva
      generalize k % Wn = a at *
      generalize k / Wn = b at *
      obtain ⟨hg1, hg2⟩ := hgf
      obtain ⟨z1, z2, z3, z4, z5, x1, x2, x3, x4⟩ := Hr.out
      have q5 : IntKind.i64.wrap (b : Int) = b := IntWalk.i64_in _ ⟨by omega, by omega⟩
      have q2 : IntKind.i64.wrap (X + (a : Int)) = X + (a : Int) := IntWalk.i64_in _ ⟨by omega, by omega⟩
      have q3 : IntKind.i64.wrap (Y + (b : Int)) = Y + (b : Int) := IntWalk.i64_in _ ⟨by omega, by omega⟩
      have q6 : wrap64 (b : Int) = b := IntWalk.wrap64_in _ ⟨by omega, by omega⟩
      have y1 : (1 : Int) ≤ Wn := by omega
      have t1 : ((k : Int).tmod (Wn : Int)) = (a : Int) := by rw [Int.tmod_eq_emod_of_nonneg (by omega), e1.out]
      have t2 : ((k : Int).tdiv (Wn : Int)) = (b : Int) := by rw [Int.tdiv_eq_ediv_of_nonneg (by omega), e2.out]
      have t3 : (Wn = 0) = False := by simp; omega
      clear e1 e2 z5
      go_upto_region 13 with fail
      go_quiet (fail)
      have hxq : Ext w7 (wr.drewN nq) := hxr.trans (Ext.drewN (Ext.refl _) _)
      clear q0 q1 p4 r4 hxr
      generalize wr.drewN nq = wo at *
      have f0 : ∀ w', Ext wo w' → w'.cell? ⟨h0, 0, none⟩ = some (.int .i64 X) := fun w' h => (kF5.ext (hxq.trans h)).cell 0
      have f1 : ∀ w', Ext wo w' → w'.cell? ⟨h0, 1, none⟩ = some (.int .i64 Y) := fun w' h => (kF5.ext (hxq.trans h)).cell 1
      have f2 : ∀ w', Ext wo w' → w'.cell? ⟨h0, 2, none⟩ = some (.int .i64 (Wn : Int)) := fun w' h => (kF5.ext (hxq.trans h)).cell 2
      go_upto_region 15 with fail
      clear hlt
      go_cut [11] from 76 to 94 (fun s11 wx => ∃ hp, s11 = Value.pointer (some ⟨hp, 0, none⟩) ∧ w7.heap.size ≤ hp ∧ Bk wx hp 37 #[.int .i64 (X + (a : Int)), .int .i64 (Y + (b : Int))] ∧ Ext w7 wx)
      case first =>
        refine wp_region_noPanic ?_
        refine wp_region_held_drew (S := fun w' => Ext wo w') (by kernel_rfl) ?_ (fun hHeld => ?_)
        · (repeat (first | exact Ext.refl _ | assumption | refine Ext.setCell ?_ (by first | (simp; done) | (simp; omega)) _ | refine Ext.drewN ?_ _ | refine Ext.alloc ?_ _ | refine Ext.drew ?_ | refine Ext.trans ?_ (by assumption)))
        refine wpAnyH_take (i := 0) (oi := ?o2x0) (v := ?v2x0) ?hi2x0 (by kernel_rfl) ?hf2x0 ?hr2x0 (fun _ _ _ h => h) ?hy2x0 (by assumption) ?rest2x0
        case hi2x0 => (simp only [List.getElem?_toArray, List.getElem?_cons_zero]; exact rfl)
        case hf2x0 => kernel_rfl
        case hr2x0 => kernel_rfl
        case hy2x0 => (refine Or.inl ⟨by rfl, ?_⟩; intro w hSw; (try dsimp only at hSw); go_simp; try with_reducible rfl)
        simp only [put_mk, List.set_cons_succ, List.set_cons_zero]
        refine wpAnyH_take (i := 1) (oi := ?o3x1) (v := ?v3x1) ?hi3x1 (by kernel_rfl) ?hf3x1 ?hr3x1 (fun _ _ _ h => h) ?hy3x1 (by assumption) ?rest3x1
        case hi3x1 => (simp only [List.getElem?_toArray, List.getElem?_cons_succ, List.getElem?_cons_zero]; exact rfl)
        case hf3x1 => kernel_rfl
        case hr3x1 => kernel_rfl
        case hy3x1 => (refine Or.inl ⟨by rfl, ?_⟩; intro w hSw; (try dsimp only at hSw); go_simp; try with_reducible rfl)
        simp only [put_mk, List.set_cons_succ, List.set_cons_zero]
        refine wpAnyH_take (i := 2) (oi := ?o4x2) (v := ?v4x2) ?hi4x2 (by kernel_rfl) ?hf4x2 ?hr4x2 (fun _ _ _ h => h) ?hy4x2 (by assumption) ?rest4x2
        case hi4x2 => (simp only [List.getElem?_toArray, List.getElem?_cons_succ, List.getElem?_cons_zero]; exact rfl)
        case hf4x2 => kernel_rfl
        case hr4x2 => kernel_rfl
        case hy4x2 => (refine Or.inl ⟨by rfl, ?_⟩; intro w hSw; (try dsimp only at hSw); go_simp; try with_reducible rfl)
        simp only [put_mk, List.set_cons_succ, List.set_cons_zero]
        refine wpAnyH_take (i := 3) (oi := ?o5x3) (v := ?v5x3) ?hi5x3 (by kernel_rfl) ?hf5x3 ?hr5x3 (fun _ _ _ h => h) ?hy5x3 (by assumption) ?rest5x3
        case hi5x3 => (simp only [List.getElem?_toArray, List.getElem?_cons_succ, List.getElem?_cons_zero]; exact rfl)
        case hf5x3 => kernel_rfl
        case hr5x3 => kernel_rfl
        case hy5x3 => (refine Or.inl ⟨by rfl, ?_⟩; intro w hSw; (try dsimp only at hSw); go_simp; try with_reducible rfl)
        simp only [put_mk, List.set_cons_succ, List.set_cons_zero]
        refine wpAnyH_take (i := 4) (oi := ?o6x4) (v := ?v6x4) ?hi6x4 (by kernel_rfl) ?hf6x4 ?hr6x4 (fun _ _ _ h => h) ?hy6x4 (by assumption) ?rest6x4
        case hi6x4 => (simp only [List.getElem?_toArray, List.getElem?_cons_succ, List.getElem?_cons_zero]; exact rfl)
        case hf6x4 => kernel_rfl
        case hr6x4 => kernel_rfl
        case hy6x4 => (refine Or.inl ⟨by rfl, ?_⟩; intro w hSw; (try dsimp only at hSw); go_simp; try with_reducible rfl)
        simp only [put_mk, List.set_cons_succ, List.set_cons_zero]
        refine wpAnyH_take (i := 5) (oi := ?o7x5) (v := ?v7x5) ?hi7x5 (by kernel_rfl) ?hf7x5 ?hr7x5 (fun _ _ _ h => h) ?hy7x5 (by assumption) ?rest7x5
        case hi7x5 => (simp only [List.getElem?_toArray, List.getElem?_cons_succ, List.getElem?_cons_zero]; exact rfl)
        case hf7x5 => kernel_rfl
        case hr7x5 => kernel_rfl
        case hy7x5 => (refine Or.inl ⟨by rfl, ?_⟩; intro w hSw; (try dsimp only at hSw); go_simp; try with_reducible rfl)
        simp only [put_mk, List.set_cons_succ, List.set_cons_zero]
        refine wpAnyH_take (i := 6) (oi := ?o8x6) (v := ?v8x6) ?hi8x6 (by kernel_rfl) ?hf8x6 ?hr8x6 (fun _ _ _ h => h) ?hy8x6 (by assumption) ?rest8x6
        case hi8x6 => (simp only [List.getElem?_toArray, List.getElem?_cons_succ, List.getElem?_cons_zero]; exact rfl)
        case hf8x6 => kernel_rfl
        case hr8x6 => kernel_rfl
        case hy8x6 => (refine Or.inl ⟨by rfl, ?_⟩; intro w hSw; (try dsimp only at hSw); go_simp; try with_reducible rfl)
        simp only [put_mk, List.set_cons_succ, List.set_cons_zero]
        refine wpAnyH_take (i := 7) (oi := ?o9x7) (v := ?v9x7) ?hi9x7 (by kernel_rfl) ?hf9x7 ?hr9x7 (fun _ _ _ h => h) ?hy9x7 (by assumption) ?rest9x7
        case hi9x7 => (simp only [List.getElem?_toArray, List.getElem?_cons_succ, List.getElem?_cons_zero]; exact rfl)
        case hf9x7 => kernel_rfl
        case hr9x7 => kernel_rfl
        case hy9x7 => (refine Or.inl ⟨by rfl, ?_⟩; intro w hSw; (try dsimp only at hSw); go_simp; try with_reducible rfl)
        simp only [put_mk, List.set_cons_succ, List.set_cons_zero]
        refine wpAnyH_take (i := 8) (oi := ?o10x8) (v := ?v10x8) ?hi10x8 (by kernel_rfl) ?hf10x8 ?hr10x8 (fun _ _ _ h => h) ?hy10x8 (by assumption) ?rest10x8
        case hi10x8 => (simp only [List.getElem?_toArray, List.getElem?_cons_succ, List.getElem?_cons_zero]; exact rfl)
        case hf10x8 => kernel_rfl
        case hr10x8 => kernel_rfl
        case hy10x8 => (refine Or.inl ⟨by rfl, ?_⟩; intro w hSw; (try dsimp only at hSw); go_simp; try with_reducible rfl)
        simp only [put_mk, List.set_cons_succ, List.set_cons_zero]
        refine wpAnyH_take (i := 9) (oi := ?o11x9) (v := ?v11x9) ?hi11x9 (by kernel_rfl) ?hf11x9 ?hr11x9 (fun _ _ _ h => h) ?hy11x9 (by assumption) ?rest11x9
        case hi11x9 => (simp only [List.getElem?_toArray, List.getElem?_cons_succ, List.getElem?_cons_zero]; exact rfl)
        case hf11x9 => kernel_rfl
        case hr11x9 => kernel_rfl
        case hy11x9 => (refine Or.inl ⟨by rfl, ?_⟩; intro w hSw; (try dsimp only at hSw); go_simp; try with_reducible rfl)
        simp only [put_mk, List.set_cons_succ, List.set_cons_zero]
        refine wpAnyH_take (i := 10) (oi := ?o12x10) (v := ?v12x10) ?hi12x10 (by kernel_rfl) ?hf12x10 ?hr12x10 (fun _ _ _ h => h) ?hy12x10 (by assumption) ?rest12x10
        case hi12x10 => (simp only [List.getElem?_toArray, List.getElem?_cons_succ, List.getElem?_cons_zero]; exact rfl)
        case hf12x10 => kernel_rfl
        case hr12x10 => kernel_rfl
        case hy12x10 => (refine Or.inl ⟨by rfl, ?_⟩; intro w hSw; (try dsimp only at hSw); go_simp; try with_reducible rfl)
        simp only [put_mk, List.set_cons_succ, List.set_cons_zero]
        refine wpAnyH_take (i := 11) (oi := ?o13x11) (v := ?v13x11) ?hi13x11 (by kernel_rfl) ?hf13x11 ?hr13x11 (fun _ _ _ h => h) ?hy13x11 (by assumption) ?rest13x11
        case hi13x11 => (simp only [List.getElem?_toArray, List.getElem?_cons_succ, List.getElem?_cons_zero]; exact rfl)
        case hf13x11 => kernel_rfl
        case hr13x11 => kernel_rfl
        case hy13x11 => (refine Or.inl ⟨by rfl, ?_⟩; intro w hSw; (try dsimp only at hSw); go_simp; try with_reducible rfl)
        simp only [put_mk, List.set_cons_succ, List.set_cons_zero]
        refine wpAnyH_take (i := 12) (oi := ?o14x12) (v := ?v14x12) ?hi14x12 (by kernel_rfl) ?hf14x12 ?hr14x12 (fun _ _ _ h => h) ?hy14x12 (by assumption) ?rest14x12
        case hi14x12 => (simp only [List.getElem?_toArray, List.getElem?_cons_succ, List.getElem?_cons_zero]; exact rfl)
        case hf14x12 => kernel_rfl
        case hr14x12 => kernel_rfl
        case hy14x12 => (refine Or.inl ⟨by rfl, ?_⟩; intro w hSw; (try dsimp only at hSw); go_simp; try with_reducible rfl)
        simp only [put_mk, List.set_cons_succ, List.set_cons_zero]
        refine wpAnyH_take (i := 13) (oi := ?o15x13) (v := ?v15x13) ?hi15x13 (by kernel_rfl) ?hf15x13 ?hr15x13 (fun _ _ _ h => h) ?hy15x13 (by assumption) ?rest15x13
        case hi15x13 => (simp only [List.getElem?_toArray, List.getElem?_cons_succ, List.getElem?_cons_zero]; exact rfl)
        case hf15x13 => kernel_rfl
        case hr15x13 => kernel_rfl
        case hy15x13 => (refine Or.inl ⟨by rfl, ?_⟩; intro w hSw; (try dsimp only at hSw); go_simp; try with_reducible rfl)
        simp only [put_mk, List.set_cons_succ, List.set_cons_zero]
        refine wpAnyH_take (i := 14) (oi := ?o16x14) (v := ?v16x14) ?hi16x14 (by kernel_rfl) ?hf16x14 ?hr16x14 (fun _ _ _ h => h) ?hy16x14 (by assumption) ?rest16x14
        case hi16x14 => (simp only [List.getElem?_toArray, List.getElem?_cons_succ, List.getElem?_cons_zero]; exact rfl)
        case hf16x14 => kernel_rfl
        case hr16x14 => kernel_rfl
        case hy16x14 => (refine Or.inl ⟨by rfl, ?_⟩; intro w hSw; (try dsimp only at hSw); go_simp; try with_reducible rfl)
        simp only [put_mk, List.set_cons_succ, List.set_cons_zero]
        refine wpAnyH_take (i := 15) (oi := ?o17x15) (v := ?v17x15) ?hi17x15 (by kernel_rfl) ?hf17x15 ?hr17x15 (fun _ _ _ h => h) ?hy17x15 (by assumption) ?rest17x15
        case hi17x15 => (simp only [List.getElem?_toArray, List.getElem?_cons_succ, List.getElem?_cons_zero]; exact rfl)
        case hf17x15 => kernel_rfl
        case hr17x15 => kernel_rfl
        case hy17x15 => (refine Or.inl ⟨by rfl, ?_⟩; intro w hSw; (try dsimp only at hSw); go_simp; try with_reducible rfl)
        simp only [put_mk, List.set_cons_succ, List.set_cons_zero]
        refine wpAnyH_take (i := 16) (oi := ?o18x16) (v := ?v18x16) ?hi18x16 (by kernel_rfl) ?hf18x16 ?hr18x16 (fun _ _ _ h => h) ?hy18x16 (by assumption) ?rest18x16
        case hi18x16 => (simp only [List.getElem?_toArray, List.getElem?_cons_succ, List.getElem?_cons_zero]; exact rfl)
        case hf18x16 => kernel_rfl
        case hr18x16 => kernel_rfl
        case hy18x16 => (refine Or.inl ⟨by rfl, ?_⟩; intro w hSw; (try dsimp only at hSw); go_simp; try with_reducible rfl)
        simp only [put_mk, List.set_cons_succ, List.set_cons_zero]
        refine wpAnyH_take (i := 17) (oi := ?o19x17) (v := ?v19x17) ?hi19x17 (by kernel_rfl) ?hf19x17 ?hr19x17 (fun _ _ _ h => h) ?hy19x17 (by assumption) ?rest19x17
        case hi19x17 => (simp only [List.getElem?_toArray, List.getElem?_cons_succ, List.getElem?_cons_zero]; exact rfl)
        case hf19x17 => kernel_rfl
        case hr19x17 => kernel_rfl
        case hy19x17 => (refine Or.inl ⟨by rfl, ?_⟩; intro w hSw; (try dsimp only at hSw); go_simp; try with_reducible rfl)
        simp only [put_mk, List.set_cons_succ, List.set_cons_zero]
        refine wpAnyH_take (i := 18) (oi := ?o20x18) (v := ?v20x18) ?hi20x18 (by kernel_rfl) ?hf20x18 ?hr20x18 (fun _ _ _ h => h) ?hy20x18 (by assumption) ?rest20x18
        case hi20x18 => (simp only [List.getElem?_toArray, List.getElem?_cons_succ, List.getElem?_cons_zero]; exact rfl)
        case hf20x18 => kernel_rfl
        case hr20x18 => kernel_rfl
        case hy20x18 => (refine Or.inl ⟨by rfl, ?_⟩; intro w hSw; (try dsimp only at hSw); go_simp; try with_reducible rfl)
        simp only [put_mk, List.set_cons_succ, List.set_cons_zero]
        refine wpAnyH_ready (rs := [19]) (by kernel_rfl) (by simp) ?_
        refine AllReadyH.cons (o := ?o21x19) ?hi21x19 (fun K hK => ?_) AllReadyH.nil
        case hi21x19 => (simp only [List.getElem?_toArray, List.getElem?_cons_succ, List.getElem?_cons_zero]; exact rfl)
        go_simp
        refine hK.out _ _ ?_ (fun hHeld => ?_)
        · (repeat (first | exact Ext.refl _ | assumption | refine Ext.setCell ?_ (by first | (simp; done) | (simp; omega)) _ | refine Ext.drewN ?_ _ | refine Ext.alloc ?_ _ | refine Ext.drew ?_ | refine Ext.trans ?_ (by assumption)))
        clear hK K
        refine wpAnyH_ready (rs := [20]) (by kernel_rfl) (by simp) ?_
        refine AllReadyH.cons (o := ?o22x20) ?hi22x20 (fun K hK => ?_) AllReadyH.nil
        case hi22x20 => (simp only [List.getElem?_toArray, List.getElem?_cons_succ, List.getElem?_cons_zero]; exact rfl)
        go_simp
        refine hK.out _ _ ?_ (fun hHeld => ?_)
        · (repeat (first | exact Ext.refl _ | assumption | refine Ext.setCell ?_ (by first | (simp; done) | (simp; omega)) _ | refine Ext.drewN ?_ _ | refine Ext.alloc ?_ _ | refine Ext.drew ?_ | refine Ext.trans ?_ (by assumption)))
        clear hK K
        refine wpAnyH_done (by kernel_rfl) ?_ _
        refine NoPanic.normal ?_
        go_wp2_with fail
        go_meet
        case rel => exact ⟨_, rfl, by have := hxq.size; simp; omega, by first | exact Bk.drew (Bk.new' (by simp)) | exact Bk.new' (by simp) | exact Bk.drew (Bk.new' rfl), hxq.trans (by repeat (first | exact Ext.refl _ | assumption | refine Ext.setCell ?_ (by first | (simp; done) | (simp; omega)) _ | refine Ext.drewN ?_ _ | refine Ext.alloc ?_ _ | refine Ext.drew ?_ | refine Ext.trans ?_ (by assumption)))⟩
      case rest =>
        obtain ⟨hp, rfl, hpl, hpb, hxc⟩ := hcut
        rw [← ec.out, ← er.out] at hpb
        clear q2 q3 q5 q6 t1 t2 f0 f1 f2 ec er hxq hg1 hg2
        have r4 : wc.cell? ⟨hg, 4, none⟩ = some (.slice (some ⟨gv, 0, none⟩) N N) := (kG5.ext hxc).cell 4
        have p4 : wc.cell? ⟨h0, 4, none⟩ = some (.slice (some ad) N c) := (kF5.ext hxc).cell 4
        have q0 := Hrv.out wc hxc k hkN
        rw [Hva.out] at q0
        go_wp2_with fail
        clear r4 p4 q0
        go_loopw [12, 103] (fun s12 s103 wy => ∃ (i j vx : Nat), i ≤ N ∧ j < N ∧ s103 = .int .i64 i ∧ s12 = .float .f32 vx ∧ Hid (vL.getD j 0 = vx) ∧ m j + i ≤ N ∧ Bk wy hp 37 #[.int .i64 (colK X Wn j), .int .i64 (rowK Y Wn j)] ∧ Ext w7 wy) (fun _ s103 _ => N - (intOf s103).toNat)
        case atStart => exact ⟨0, k, va, Nat.zero_le _, hkN, rfl, rfl, Hva, HmN.out k, hpb, hxc⟩
        case round =>
          clear hpb hxc
          obtain ⟨i, j, vx, hi, hjN, rfl, rfl, Hvx, hmi, hpb, hx⟩ := hrel
          have Hmi := hidA hmi
          clear hmi
          by_cases hiN : i < N
          · have c0 := (kF5.ext hx).cell 0
            have c1 := (kF5.ext hx).cell 1
            have c2 := (kF5.ext hx).cell 2
            have c3 := (kF5.ext hx).cell 3
            have p0 := hpb.cell 0
            have p1 := hpb.cell 1
            have j1 : (i : Int) < N := by omega
            have hgg := Hgt.out j
            have hD9 := hD5.ext hx
            have HNk := HNx.out gd j D m wr hjN hD9 HLd.out
            cases hnx : nxtD D Wn Hn j with
            | none =>
              rw [hnx] at HNk
              rw [show nxtP X Y Wn none = .tuple #[.agg #[.int .i64 0, .int .i64 0], .bool false, .int .i64 0] from rfl] at HNk
              have hd0 : D j < 0 := nxt_none_neg HLd.out hjN hnx
              clear hgg hnx
              have HNk := hidA HNk
              go_upto_region 20 with (go_at_call 10; refine (HNk.out).mono ?_; rintro e w9 ⟨rfl, hx9⟩)
              have hxe : Ext w7 (w9.alloc (.cells #[.int .i64 0, .int .i64 0] 37)) := (hx.trans hx9).alloc _
              have hpe := (hpb.ext hx9).alloc (.cells #[.int .i64 0, .int .i64 0] 37)
              clear c0 c1 c2 c3 p0 p1 hpb hx hx9 HNk hD9
              generalize w9.alloc (.cells #[.int .i64 0, .int .i64 0] 37) = we at *
              have hbr := HLd.out.edge j hjN hd0
              unfold brd at hbr
              have hgj := grid_facts Hr.out.w1 (show j < Wn * Hn by rw [← HN.out]; exact hjN)
              have hcol : colK X Wn j = X + ((j % Wn : Nat) : Int) := rfl
              have hrow : rowK Y Wn j = Y + ((j / Wn : Nat) : Int) := rfl
              have f0 := (kF5.ext hxe).cell 0
              have f1 := (kF5.ext hxe).cell 1
              have f2 := (kF5.ext hxe).cell 2
              have f3 := (kF5.ext hxe).cell 3
              have p0 := hpe.cell 0
              have p1 := hpe.cell 1
              generalize colK X Wn j = px at *
              generalize rowK Y Wn j = py at *
              generalize j % Wn = a at *
              generalize j / Wn = b at *
              have e1 : px - X = (a : Int) := by omega
              have e2 : py - Y = (b : Int) := by omega
              have hb4 : a = 0 ∨ (0 < a ∧ a = Wn - 1) ∨ (0 < a ∧ a < Wn - 1 ∧ b = 0) ∨ (0 < a ∧ a < Wn - 1 ∧ 0 < b ∧ b = Hn - 1) := by
                simp at hbr
                omega
              obtain ⟨g1, g2⟩ := hgj
              obtain ⟨r1, r2, r3, r4, r5, r6, r7, r8, r9⟩ := Hr.out
              clear hbr hcol hrow
              go_upto_region 29 with fail
              go_quiet (fail)
              have hxq : Ext w7 (we.drewN nq) := hxe.trans (Ext.drewN (Ext.refl _) _)
              clear f0 f1 f2 f3 p0 p1
              have f2 := (kF5.ext hxq).cell 2
              have f3 := (kF5.ext hxq).cell 3
              clear hpe hxe
              generalize we.drewN nq = wq at *
              go_upto_region 30 with fail
              rcases hb4 with h0 | ⟨h0, h1⟩ | ⟨h0, h1, h2⟩ | ⟨h0, h1, h2, h3⟩
              · have i1 : ¬ ((0 : Int) < (a : Int)) := by omega
                go_wp2_with fail
                go_roundw
                case rel => exact ⟨k + 1, by omega, by go_num, hxq.trans (by repeat (first | exact Ext.refl _ | assumption | refine Ext.setCell ?_ (by first | (simp; done) | (simp; omega)) _ | refine Ext.drewN ?_ _ | refine Ext.alloc ?_ _ | refine Ext.drew ?_ | refine Ext.trans ?_ (by assumption)))⟩
                case measure => simp [intOf] <;> omega
              · have i1 : (0 : Int) < (a : Int) := by omega
                have i2 : ¬ ((a : Int) < (Wn : Int) - 1) := by omega
                go_wp2_with fail
                go_roundw
                case rel => exact ⟨k + 1, by omega, by go_num, hxq.trans (by repeat (first | exact Ext.refl _ | assumption | refine Ext.setCell ?_ (by first | (simp; done) | (simp; omega)) _ | refine Ext.drewN ?_ _ | refine Ext.alloc ?_ _ | refine Ext.drew ?_ | refine Ext.trans ?_ (by assumption)))⟩
                case measure => simp [intOf] <;> omega
              · have i1 : (0 : Int) < (a : Int) := by omega
                have i2 : (a : Int) < (Wn : Int) - 1 := by omega
                have i3 : ¬ ((0 : Int) < (b : Int)) := by omega
                go_wp2_with fail
                go_roundw
                case rel => exact ⟨k + 1, by omega, by go_num, hxq.trans (by repeat (first | exact Ext.refl _ | assumption | refine Ext.setCell ?_ (by first | (simp; done) | (simp; omega)) _ | refine Ext.drewN ?_ _ | refine Ext.alloc ?_ _ | refine Ext.drew ?_ | refine Ext.trans ?_ (by assumption)))⟩
                case measure => simp [intOf] <;> omega
              · have i1 : (0 : Int) < (a : Int) := by omega
                have i2 : (a : Int) < (Wn : Int) - 1 := by omega
                have i3 : (0 : Int) < (b : Int) := by omega
                have i4 : ¬ ((b : Int) < (Hn : Int) - 1) := by omega
                go_wp2_with fail
                go_roundw
                case rel => exact ⟨k + 1, by omega, by go_num, hxq.trans (by repeat (first | exact Ext.refl _ | assumption | refine Ext.setCell ?_ (by first | (simp; done) | (simp; omega)) _ | refine Ext.drewN ?_ _ | refine Ext.alloc ?_ _ | refine Ext.drew ?_ | refine Ext.trans ?_ (by assumption)))⟩
                case measure => simp [intOf] <;> omega
            | some n =>
              rw [hnx] at HNk
              rw [show nxtP X Y Wn (some n) = .tuple #[.agg #[.int .i64 (colK X Wn n), .int .i64 (rowK Y Wn n)], .bool true, .int .i64 0] from rfl] at HNk
              have hnN : n < N := by rw [HN.out]; exact nxt_lt hnx
              obtain ⟨hd0, hnb⟩ := nxt_some_pos HLd.out hjN hnx
              have hgt := hgg n hjN hnN (Hfl.out j n hjN hd0 hnb)
              have hmn : m n < m j := by
                obtain ⟨n', h1, h2⟩ := HLd.out.step j hjN hd0
                rw [hnb] at h1
                injection h1 with h1
                rw [h1]
                exact h2
              have Hm2 := hidA (show m n + (i + 1) ≤ N by have := Hmi.out; omega)
              clear hgg hnx hnb hd0 hmn
              have HNk := hidA HNk
              have hgn := grid_facts Hr.out.w1 (show n < Wn * Hn by rw [← HN.out]; exact hnN)
              have hdm := Nat.div_add_mod n Wn
              have hcol : colK X Wn n = X + ((n % Wn : Nat) : Int) := rfl
              have hrow : rowK Y Wn n = Y + ((n / Wn : Nat) : Int) := rfl
              generalize hpx : colK X Wn n = px at *
              generalize hpy : rowK Y Wn n = py at *
              generalize n % Wn = a2 at *
              generalize n / Wn = b2 at *
              have Hpx := hidA hpx
              have Hpy := hidA hpy
              clear hpx hpy
              obtain ⟨hgn1, hgn2⟩ := hgn
              have hbb : b2 ≤ 65536 := by omega
              have w1 : py - Y = (b2 : Int) := by omega
              have w2 : (b2 : Int) * (Wn : Int) = ((Wn * b2 : Nat) : Int) := by rw [Int.natCast_mul, Int.mul_comm]
              generalize hwb : Wn * b2 = t at *
              have ht : t ≤ 65536 := by omega
              have w3 : (t : Int) + px - X = (n : Int) := by omega
              have u1 : -4194304 ≤ px := by omega
              have u2 : px ≤ 8388608 := by omega
              have u3 : -4194304 ≤ py := by omega
              have u4 : py ≤ 8388608 := by omega
              have j3 : (0 : Int) ≤ n := by omega
              have j4 : (n : Int) < N := by omega
              have v1 : IntKind.i64.wrap (b2 : Int) = b2 := IntWalk.i64_in _ ⟨by omega, by omega⟩
              have v2 : IntKind.i64.wrap (t : Int) = t := IntWalk.i64_in _ ⟨by omega, by omega⟩
              have v3 : IntKind.i64.wrap ((t : Int) + px) = (t : Int) + px := IntWalk.i64_in _ ⟨by omega, by omega⟩
              have v4 : IntKind.i64.wrap (n : Int) = n := IntWalk.i64_in _ ⟨by omega, by omega⟩
              clear hdm hcol hrow hwb hgn1 hgn2
              go_upto_region 20 with (go_at_call 10; refine (HNk.out).mono ?_; rintro e w9 ⟨rfl, hx9⟩)
              have kQ : Bk (w9.alloc (.cells #[.int .i64 px, .int .i64 py] 37)) w9.heap.size 37 #[.int .i64 px, .int .i64 py] := Bk.new' rfl
              have hx10 : Ext w7 (w9.alloc (.cells #[.int .i64 px, .int .i64 py] 37)) := (hx.trans hx9).alloc _
              have hpe := (hpb.ext hx9).alloc (.cells #[.int .i64 px, .int .i64 py] 37)
              clear c0 c1 c2 c3 p0 p1 hpb hx hx9 HNk hD9
              generalize w9.alloc (.cells #[.int .i64 px, .int .i64 py] 37) = we at *
              generalize w9.heap.size = hq at *
              have d0 := kQ.cell 0
              have d1 := kQ.cell 1
              have p0 := hpe.cell 0
              have p1 := hpe.cell 1
              have y0 := hpe.frozen 0
              have y1' := hpe.frozen 1
              have hpf : Bk ((we.setCell ⟨hp, 0, none⟩ (.int .i64 px)).setCell ⟨hp, 1, none⟩ (.int .i64 py)) hp 37 #[.int .i64 px, .int .i64 py] := by simpa using (hpe.set 0 (.int .i64 px)).set 1 (.int .i64 py)
              have hxf : Ext w7 ((we.setCell ⟨hp, 0, none⟩ (.int .i64 px)).setCell ⟨hp, 1, none⟩ (.int .i64 py)) := (hx10.setCell (p := ⟨hp, 0, none⟩) hpl _).setCell (p := ⟨hp, 1, none⟩) hpl _
              go_upto_region 24 with fail
              clear d0 d1 p0 p1 y0 y1' kQ hpe hx10
              generalize (we.setCell ⟨hp, 0, none⟩ (.int .i64 px)).setCell ⟨hp, 1, none⟩ (.int .i64 py) = wf at *
              have p0 := hpf.cell 0
              have p1 := hpf.cell 1
              have c0 := (kF5.ext hxf).cell 0
              have c1 := (kF5.ext hxf).cell 1
              have c2 := (kF5.ext hxf).cell 2
              have r4 : wf.cell? ⟨hg, 4, none⟩ = some (.slice (some ⟨gv, 0, none⟩) N N) := (kG5.ext hxf).cell 4
              obtain ⟨vn, hvn⟩ : ∃ vn, vL.getD n 0 = vn := ⟨_, rfl⟩
              have qn : wf.cell? ⟨gv, n, none⟩ = some (.float .f32 vn) := by rw [← hvn]; exact Hrv.out wf hxf n hnN
              rw [hvn, Hvx.out] at hgt
              have Hvn := hidA hvn
              clear hvn
              go_wp2_with fail
              go_roundw
              case rel => exact ⟨i + 1, n, vn, by omega, hnN, by go_num, rfl, Hvn, Hm2.out, by rw [Hpx.out, Hpy.out]; exact hpf, hxf⟩
              case measure => simp [intOf] <;> omega
          · obtain rfl : N = i := by omega
            have hd0 : D j < 0 := by
              by_cases h0 : D j < 0
              · exact h0
              · obtain ⟨n', h1, h2⟩ := HLd.out.step j hjN (by omega)
                have := Hmi.out
                omega
            have hxe := hx
            have hpe := hpb
            clear hx hpb
            obtain ⟨we, hwe⟩ : ∃ we, we = wr := ⟨_, rfl⟩
            subst hwe
            have hbr := HLd.out.edge j hjN hd0
            unfold brd at hbr
            have hgj := grid_facts Hr.out.w1 (show j < Wn * Hn by rw [← HN.out]; exact hjN)
            have hcol : colK X Wn j = X + ((j % Wn : Nat) : Int) := rfl
            have hrow : rowK Y Wn j = Y + ((j / Wn : Nat) : Int) := rfl
            have f0 := (kF5.ext hxe).cell 0
            have f1 := (kF5.ext hxe).cell 1
            have f2 := (kF5.ext hxe).cell 2
            have f3 := (kF5.ext hxe).cell 3
            have p0 := hpe.cell 0
            have p1 := hpe.cell 1
            generalize colK X Wn j = px at *
            generalize rowK Y Wn j = py at *
            generalize j % Wn = a at *
            generalize j / Wn = b at *
            have e1 : px - X = (a : Int) := by omega
            have e2 : py - Y = (b : Int) := by omega
            have hb4 : a = 0 ∨ (0 < a ∧ a = Wn - 1) ∨ (0 < a ∧ a < Wn - 1 ∧ b = 0) ∨ (0 < a ∧ a < Wn - 1 ∧ 0 < b ∧ b = Hn - 1) := by
              simp at hbr
              omega
            obtain ⟨g1, g2⟩ := hgj
            obtain ⟨r1, r2, r3, r4, r5, r6, r7, r8, r9⟩ := Hr.out
            clear hbr hcol hrow
            go_upto_region 29 with fail
            go_quiet (fail)
            have hxq : Ext w7 (we.drewN nq) := hxe.trans (Ext.drewN (Ext.refl _) _)
            clear f0 f1 f2 f3 p0 p1
            have f2 := (kF5.ext hxq).cell 2
            have f3 := (kF5.ext hxq).cell 3
            clear hpe hxe
            generalize we.drewN nq = wq at *
            go_upto_region 30 with fail
            rcases hb4 with h0 | ⟨h0, h1⟩ | ⟨h0, h1, h2⟩ | ⟨h0, h1, h2, h3⟩
            · have i1 : ¬ ((0 : Int) < (a : Int)) := by omega
              go_wp2_with fail
              go_roundw
              case rel => exact ⟨k + 1, by omega, by go_num, hxq.trans (by repeat (first | exact Ext.refl _ | assumption | refine Ext.setCell ?_ (by first | (simp; done) | (simp; omega)) _ | refine Ext.drewN ?_ _ | refine Ext.alloc ?_ _ | refine Ext.drew ?_ | refine Ext.trans ?_ (by assumption)))⟩
              case measure => simp [intOf] <;> omega
            · have i1 : (0 : Int) < (a : Int) := by omega
              have i2 : ¬ ((a : Int) < (Wn : Int) - 1) := by omega
              go_wp2_with fail
              go_roundw
              case rel => exact ⟨k + 1, by omega, by go_num, hxq.trans (by repeat (first | exact Ext.refl _ | assumption | refine Ext.setCell ?_ (by first | (simp; done) | (simp; omega)) _ | refine Ext.drewN ?_ _ | refine Ext.alloc ?_ _ | refine Ext.drew ?_ | refine Ext.trans ?_ (by assumption)))⟩
              case measure => simp [intOf] <;> omega
            · have i1 : (0 : Int) < (a : Int) := by omega
              have i2 : (a : Int) < (Wn : Int) - 1 := by omega
              have i3 : ¬ ((0 : Int) < (b : Int)) := by omega
              go_wp2_with fail
              go_roundw
              case rel => exact ⟨k + 1, by omega, by go_num, hxq.trans (by repeat (first | exact Ext.refl _ | assumption | refine Ext.setCell ?_ (by first | (simp; done) | (simp; omega)) _ | refine Ext.drewN ?_ _ | refine Ext.alloc ?_ _ | refine Ext.drew ?_ | refine Ext.trans ?_ (by assumption)))⟩
              case measure => simp [intOf] <;> omega
            · have i1 : (0 : Int) < (a : Int) := by omega
              have i2 : (a : Int) < (Wn : Int) - 1 := by omega
              have i3 : (0 : Int) < (b : Int) := by omega
              have i4 : ¬ ((b : Int) < (Hn : Int) - 1) := by omega
              go_wp2_with fail
              go_roundw
              case rel => exact ⟨k + 1, by omega, by go_num, hxq.trans (by repeat (first | exact Ext.refl _ | assumption | refine Ext.setCell ?_ (by first | (simp; done) | (simp; omega)) _ | refine Ext.drewN ?_ _ | refine Ext.alloc ?_ _ | refine Ext.drew ?_ | refine Ext.trans ?_ (by assumption)))⟩
              case measure => simp [intOf] <;> omega
    · obtain rfl : N = k := by omega
      have f4 : wr.cell? ⟨h0, 4, none⟩ = some (.slice (some ad) N c) := (kF5.ext hxr).cell 4
      have r4 : wr.cell? ⟨hg, 4, none⟩ = some (.slice (some ⟨gv, 0, none⟩) N N) := (kG5.ext hxr).cell 4
      obtain ⟨kq, hkq, hkN⟩ : ∃ kq : Nat, (IntKind.u64.wrap kk).tmod (N : Int) = (kq : Int) ∧ kq < N := by
        have h0 : 0 ≤ IntKind.u64.wrap kk := by
          simp [IntKind.wrap, IntKind.bits, IntKind.signed]
          omega
        have h1 := Int.emod_nonneg (IntKind.u64.wrap kk) (show (N : Int) ≠ 0 by omega)
        have h2 := Int.emod_lt_of_pos (IntKind.u64.wrap kk) (show (0 : Int) < N by omega)
        refine ⟨((IntKind.u64.wrap kk) % (N : Int)).toNat, ?_, by omega⟩
        rw [Int.tmod_eq_emod_of_nonneg h0]
        omega
      have hw : wrap64 (kq : Int) = kq := IntWalk.wrap64_in _ ⟨by omega, by omega⟩
      go_upto_region 34 with fail
      clear f4 r4
      have f4 : wr.cell? ⟨h0, 4, none⟩ = some (.slice (some ad) N c) := (kF5.ext hxr).cell 4
      have r4 : wr.cell? ⟨hg, 4, none⟩ = some (.slice (some ⟨gv, 0, none⟩) N N) := (kG5.ext hxr).cell 4
      have i1 : (0 : Int) ≤ kq := by omega
      have i2 : (kq : Int) < N := by omega
      obtain ⟨va, hva⟩ : ∃ va, vL.getD kq 0 = va := ⟨_, rfl⟩
      obtain ⟨vb, hvb⟩ : ∃ vb, l.getD kq 0 = vb := ⟨_, rfl⟩
      have q0 : wr.cell? ⟨gv, kq, none⟩ = some (.float .f32 va) := by rw [← hva]; exact Hrv.out wr hxr kq hkN
      have q1 : wr.cell? (ad.add kq) = some (.float .f32 vb) := by rw [← hvb]; exact Hrl.out wr hxr kq hkN
      have bA := Hvb.out kq hkN
      have bB := Hbd.out kq hkN
      have hbe := Hbe.out vL HL.out kq hkN
      rw [hva, hvb] at hbe
      rw [hva] at bA
      rw [hvb] at bB
      have ho : FloatKind.f32.format.order va vb = some (compare (valI va) (valI vb)) := by
        rw [ord_def]
        exact ord_valI (bd_Fin bA (by omega)) (bd_Fin bB (by omega))
      have Hbe1 := hidA hbe
      have Hva := hidA hva
      clear hbe hva hvb hw hkq Hlt Hfl Hgt
      by_cases hev : valI va = valI vb
      · have hq : (FloatKind.f32.format.order va vb == some .eq) = true := by rw [ho, hev]; simp
        clear ho hev
        go_quiet (fail)
        go_wp2_with fail
        go_ret
        exact ⟨by first | rfl | simp, hxw.trans (hxr.trans (by repeat (first | exact Ext.refl _ | assumption | refine Ext.setCell ?_ (by first | (simp; done) | (simp; omega)) _ | refine Ext.drewN ?_ _ | refine Ext.alloc ?_ _ | refine Ext.drew ?_ | refine Ext.trans ?_ (by assumption))))⟩
      · have hq : (FloatKind.f32.format.order va vb == some .eq) = false := by
          rw [ho]
          rcases Int.lt_trichotomy (valI va) (valI vb) with h | h | h
          · rw [Int.compare_eq_lt.2 h]; decide
          · exact absurd h hev
          · rw [Int.compare_eq_gt.2 h]; decide
        obtain ⟨hlow, hex⟩ := Hbe1.out hev
        have Hlow := hidA hlow
        have Hex := hidA hex
        clear ho hev hlow hex Hbe1
        go_quiet (fail)
        have hxq : Ext w7 (wr.drewN nq) := hxr.trans (Ext.drewN (Ext.refl _) _)
        clear q0 q1 f4 r4 hxr
        generalize wr.drewN nq = wo at *
        have c0 := (kF5.ext hxq).cell 0
        have c1 := (kF5.ext hxq).cell 1
        have c2 := (kF5.ext hxq).cell 2
        have c3 := (kF5.ext hxq).cell 3
        have HB1 := hidA (HBs.out kq wo hkN)
        go_upto_region 37 with (go_at_call 11; refine (HB1.out).mono ?_; rintro e w8 ⟨v8, L, rfl, hown, hmem, hlen, hx8⟩)
        obtain ⟨LA, lc, hv⟩ := own_form hown
        subst hv
        have hx8' := hxq.trans hx8
        clear c0 c1 c2 c3 HB1 hx8 hxq hq
        have Hmem := hidA hmem
        have hL0 : 0 < L.length := by
          obtain ⟨d, n, hd8, hn8, _⟩ := Hex.out
          exact List.length_pos_of_mem ((Hmem.out n).2 ⟨d, hd8, hn8⟩)
        have HLN := hidA (fun j (hj : j < L.length) => show L[j] < N from by
          obtain ⟨d, hd8, hn8⟩ := (Hmem.out L[j]).1 (List.getElem_mem hj)
          rw [HN.out]
          exact nbr_lt hn8)
        have hRd : Rd w8 LA (nats L) := Rd.of_own hown
        obtain ⟨la, rfl, _, _⟩ := hRd.at (k := 0) (by simpa [nats] using hL0)
        have Hrn := hidA (fun (w' : World) (h : Ext w8 w') (j : Nat) (hj : j < L.length) => (hRd.ext h).reads j _ (nats_get hj))
        have Hll := hidA hlen
        clear hmem hown hRd
        obtain ⟨n0, hn0⟩ : ∃ n0, L[0] = n0 := ⟨_, rfl⟩
        have hn0N : n0 < N := by rw [← hn0]; exact HLN.out 0 hL0
        obtain ⟨vx, hvx⟩ : ∃ vx, vL.getD n0 0 = vx := ⟨_, rfl⟩
        have r4 : w8.cell? ⟨hg, 4, none⟩ = some (.slice (some ⟨gv, 0, none⟩) N N) := (kG5.ext hx8').cell 4
        have q0 : w8.cell? la = some (.int .i64 (n0 : Int)) := by rw [← hn0]; exact Hrn.out w8 (Ext.refl _) 0 hL0
        have q1 : w8.cell? ⟨gv, n0, none⟩ = some (.float .f32 vx) := by rw [← hvx]; exact Hrv.out w8 hx8' n0 hn0N
        have k1 : (0 : Int) < L.length := by omega
        have k2 : (0 : Int) ≤ n0 := by omega
        have k3 : (n0 : Int) < N := by omega
        have Hvx := hidA (show vL.getD L[0] 0 = vx by rw [hn0]; exact hvx)
        clear hn0 hvx
        go_quiet (fail)
        have hxq : Ext w8 (w8.drewN nq) := Ext.drewN (Ext.refl _) _
        clear r4 q0 q1
        go_wp2_with fail
        go_loopw [20, 212] (fun s20 s212 wr => ∃ (i x : Nat), i ≤ L.length ∧ s212 = .int .i64 i ∧ s20 = .float .f32 x ∧ Hid (Bd 20 x ∧ valI va ≤ valI x ∧ (∀ j (hj : j < i) (h : j < L.length), valI x ≤ valI (vL.getD L[j] 0))) ∧ Ext w8 wr) (fun _ s212 _ => L.length - (intOf s212).toNat)
        case atStart => exact ⟨0, vx, Nat.zero_le _, rfl, rfl, hidA ⟨by rw [← Hvx.out]; exact Hvb.out _ (HLN.out 0 hL0), by
          obtain ⟨d, hd8, hn8⟩ := (Hmem.out L[0]).1 (List.getElem_mem hL0)
          have := Hlow.out d _ hd8 hn8
          rw [Hvx.out] at this
          exact this, fun j hj => by omega⟩, hxq⟩
        case round =>
          clear hxq
          obtain ⟨i, x, hi, rfl, rfl, Hx, hxr⟩ := hrel
          by_cases hiL : i < L.length
          · obtain ⟨n1, hn1⟩ : ∃ n1, L[i] = n1 := ⟨_, rfl⟩
            have hn1N : n1 < N := by rw [← hn1]; exact HLN.out i hiL
            obtain ⟨vy, hvy⟩ : ∃ vy, vL.getD n1 0 = vy := ⟨_, rfl⟩
            have r4 : wr.cell? ⟨hg, 4, none⟩ = some (.slice (some ⟨gv, 0, none⟩) N N) := (kG5.ext (hx8'.trans hxr)).cell 4
            have q0 : wr.cell? (la.add i) = some (.int .i64 (n1 : Int)) := by rw [← hn1]; exact Hrn.out wr hxr i hiL
            have q1 : wr.cell? ⟨gv, n1, none⟩ = some (.float .f32 vy) := by rw [← hvy]; exact Hrv.out wr (hx8'.trans hxr) n1 hn1N
            have bY : Bd 20 vy := by rw [← hvy]; exact Hvb.out _ hn1N
            have hlY : valI va ≤ valI vy := by
              obtain ⟨d, hd8, hn8⟩ := (Hmem.out L[i]).1 (List.getElem_mem hiL)
              have := Hlow.out d _ hd8 hn8
              rw [hn1, hvy] at this
              exact this
            obtain ⟨bX, hlX, hall⟩ := Hx.out
            have ho : FloatKind.f32.format.order x vy = some (compare (valI x) (valI vy)) := by
              rw [ord_def]
              exact ord_valI (bd_Fin bX (by omega)) (bd_Fin bY (by omega))
            have mn := run_minW ho
            obtain ⟨_, hm2, hm3⟩ := minW_ok bX bY
            have hmc : minW x vy = x ∨ minW x vy = vy := by
              unfold minW
              split
              · exact .inl rfl
              · exact .inr rfl
              · split
                · exact .inl rfl
                · exact .inr rfl
            have Hx2 := hidA (show Bd 20 (minW x vy) ∧ valI va ≤ valI (minW x vy) ∧ (∀ j (hj : j < i + 1) (h : j < L.length), valI (minW x vy) ≤ valI (vL.getD L[j] 0)) from by
              refine ⟨by rcases hmc with h | h <;> rw [h] <;> assumption, by rcases hmc with h | h <;> rw [h] <;> assumption, fun j hj h => ?_⟩
              by_cases e : j = i
              · subst e
                rw [hn1, hvy]
                exact hm3
              · have := hall j (by omega) h
                omega)
            generalize minW x vy = z at *
            have i1 : (0 : Int) ≤ i := by omega
            have i2' : (i : Int) < L.length := by omega
            have k4 : (0 : Int) ≤ n1 := by omega
            have k5 : (n1 : Int) < N := by omega
            have hll := Hll.out
            clear hmc hm2 hm3 hall hlX hlY bX bY ho hn1 hvy Hx
            go_wp2_with fail
            go_roundw
            case rel => exact ⟨i + 1, z, by omega, by go_num, rfl, Hx2, hxr⟩
            case measure => simp [intOf] <;> omega
          · obtain rfl : i = L.length := by omega
            have r4 : wr.cell? ⟨hg, 4, none⟩ = some (.slice (some ⟨gv, 0, none⟩) N N) := (kG5.ext (hx8'.trans hxr)).cell 4
            have q1 : wr.cell? ⟨gv, kq, none⟩ = some (.float .f32 va) := by rw [← Hva.out]; exact Hrv.out wr (hx8'.trans hxr) kq hkN
            have hq : (FloatKind.f32.format.order va x == some .eq) = true := by
              obtain ⟨bX, hlX, hall⟩ := Hx.out
              have bA := Hvb.out kq hkN
              rw [Hva.out] at bA
              obtain ⟨d, n, hd8, hn8, hev⟩ := Hex.out
              obtain ⟨j, hj, hjn⟩ := List.getElem_of_mem ((Hmem.out n).2 ⟨d, hd8, hn8⟩)
              have h2 := hall j hj hj
              rw [hjn, hev] at h2
              rw [ord_def, ord_valI (bd_Fin bA (by omega)) (bd_Fin bX (by omega)), show valI va = valI x by omega]
              simp
            have i1 : (0 : Int) ≤ kq := by omega
            have i2' : (kq : Int) < N := by omega
            go_wp2_with fail
            go_ret
            exact ⟨by first | rfl | simp, hxw.trans (hx8'.trans hxr)⟩

theorem tdrain_walk (x y ww hh : Int) (A : Option Addr) (n c : Nat) (k : Int) (l : List Nat) (w : World) (hn : l.length = n) (hd : Rd w A (flt l)) (hb : n ≤ 140737488351232) :
    Calls Try.prog 3 #[.agg #[.int .i64 x, .int .i64 y, .int .i64 ww, .int .i64 hh, .slice A n c], .int .i64 k] w fun e w' => e = .returned (.bool true) ∧ Ext w w' := by
  by_cases hf : fieldE x y ww hh l = 0
  · obtain ⟨h1, h2, _⟩ := field_reg hf
    obtain ⟨Wn, Hn, rfl, rfl, hr⟩ := Reg.of_zero h1
    have hN : n = Wn * Hn := by
      rw [hn, ← Int.natCast_mul] at h2
      exact Int.ofNat.inj h2
    exact tdrain_good x y Wn Hn n A c k l w hr hN hn hd hf
  · exact tdrain_bad x y ww hh A n c k l w hn hd hb hf
end Go.Proofs.Ytepgfplbkmhgbaa

namespace Go.Proofs.Ytepgfplbkmhgbaa
open Go.ChangeShapes Go.WideShapes Go.ChangeAt Go.RowKit Go.Joins Go.Deep 

theorem own : ownKnob Try.prog.godebug = none := by kernel_rfl
theorem laidOut : laidOutB Try.prog = true := by kernel_rfl
theorem cellsField : Try.prog.cellsOf 26 = 5 := by kernel_rfl
theorem cellsRegion : Try.prog.cellsOf 23 = 4 := by kernel_rfl
theorem cellsPoint : Try.prog.cellsOf 37 = 2 := by kernel_rfl
theorem cellsInt : Try.prog.cellsOf 3 = 1 := by kernel_rfl
theorem cellsFloats : Try.prog.cellsOf 24 = 1 := by kernel_rfl
theorem cellsFloat : Try.prog.cellsOf 31 = 1 := by kernel_rfl
theorem bytesFloat : Try.prog.bytesOf 31 = 4 := by kernel_rfl

section
variable {H : Type} {enc : TypeId × Value → H} {W : World} {base : Nat}

theorem trod_flo {P : Program} {w : World} {spare : Nat → Bool} {held : Bool} {fuel : Nat} {t : TypeId} {k : FloatKind} {cs : List Value} {x : DataW H × List MemPlace} (ht : P.underlying t = some (.float k)) (h : DataW.trod enc P w base spare held fuel t cs = some x) : ∃ b, cs = [.float k b] := by
  cases fuel with
  | zero => simp [DataW.trod] at h
  | succ n =>
    unfold DataW.trod at h
    rw [ht] at h
    split at h <;> simp_all

set_option maxRecDepth 100000 in
theorem open_point {spare : Nat → Bool} {held : Bool} {r : Reach} {b0 : Nat} {v : Value} {d : DataW H} {p : List MemPlace} (hv : Value.okWide Try.prog W r b0 37 v)
    (h : DataW.Trod enc Try.prog W base spare held 37 v d p) : ∃ x y : Int, v = .agg #[.int .i64 x, .int .i64 y] := by
  obtain ⟨v0, v1, y0, y1, n, rfl, rfl, rfl, h0, h1⟩ := open_agg2 Try.underlying37 (by kernel_rfl) cellsPoint hv h
  obtain ⟨x, e0, _, _⟩ := DataW.trod_int Try.underlying3 h0
  obtain ⟨y, e1, _, _⟩ := DataW.trod_int Try.underlying3 h1
  obtain rfl : v0 = _ := by simpa using e0
  obtain rfl : v1 = _ := by simpa using e1
  exact ⟨x, y, rfl⟩

theorem cell_lt {w : World} {a : Addr} {v : Value} (h : w.cell? a = some v) : a.block < w.heap.size := by
  by_cases hb : a.block < w.heap.size
  · exact hb
  · simp [World.cell?, Array.getElem?_eq_none (Nat.le_of_not_lt hb)] at h

set_option maxRecDepth 100000 in
theorem open_field {r : Reach} {b0 : Nat} {held : Bool} {v : Value} {d : DataW H} {p : List MemPlace} (hv : Value.okWide Try.prog W r b0 26 v)
    (h : DataW.Trod enc Try.prog W base (fun _ => true) held 26 v d p) (hsz : ∀ n ∈ d.weights Try.prog 26, n ≤ reachBytes) :
    ∃ (X Y K J : Int) (A : Option Addr) (n c : Nat) (l : List Nat), v = .agg #[.int .i64 X, .int .i64 Y, .int .i64 K, .int .i64 J, .slice A n c] ∧ l.length = n ∧ Rd W A (flt l) ∧ n ≤ 140737488351232 := by
  obtain ⟨cs, rfl, hcs⟩ := okWide_struct Try.underlying26 hv
  rw [cellsField] at hcs
  obtain ⟨L⟩ := cs
  match L, hcs with
  | [c0, c1, c2, c3, c4], _ =>
    obtain ⟨fuel, hf⟩ := h
    obtain ⟨y0, y1, n, hx, _, h0, h1⟩ := trod_struct2 Try.underlying26 hf
    simp only [Prod.mk.injEq] at hx
    obtain ⟨rfl, rfl⟩ := hx
    simp only [Value.cells, cellsRegion, cellsFloats] at h0 h1
    simp at h0 h1
    obtain ⟨r0, r1, r2, r3, m, hx0, _, g0, g1, g2, g3⟩ := trod_struct4 Try.underlying23 h0
    simp [cellsInt] at g0 g1 g2 g3
    obtain ⟨X, e0, _, _⟩ := DataW.trod_int Try.underlying3 g0
    obtain ⟨Y, e1, _, _⟩ := DataW.trod_int Try.underlying3 g1
    obtain ⟨K, e2, _, _⟩ := DataW.trod_int Try.underlying3 g2
    obtain ⟨J, e3, _, _⟩ := DataW.trod_int Try.underlying3 g3
    obtain rfl : c0 = _ := by simpa using e0
    obtain rfl : c1 = _ := by simpa using e1
    obtain rfl : c2 = _ := by simpa using e2
    obtain rfl : c3 = _ := by simpa using e3
    rcases open_slice1 Try.underlying24 cellsFloat h1 with ⟨hc, hd⟩ | ⟨a, len, cap, m', n', V, D, Pl, hc, _, hl, _, hm, hd, hV⟩
    · obtain rfl : c4 = _ := by simpa using hc
      exact ⟨X, Y, K, J, none, 0, 0, [], rfl, rfl, Rd.nil _ _, by omega⟩
    · obtain rfl : c4 = _ := by simpa using hc
      simp only [if_true] at hm
      subst hm
      obtain ⟨f, hff⟩ := choose_lt (α := Nat) (n := len) (p := fun i b => V i = .float .f32 b) (fun i hi => by
        obtain ⟨b, hb⟩ := trod_flo Try.underlying31 (hV i (by omega)).2
        exact ⟨b, by simpa using hb⟩)
      have hw : (len + (m' - len)) * 4 ≤ reachBytes := by
        refine hsz _ ?_
        rw [hd]
        simp [DataW.weights, DataW.weightsEach, Try.underlying26, Try.underlying24, bytesFloat]
      refine ⟨X, Y, K, J, some a, len, m', (List.range len).map f, rfl, by simp, ?_, by simp only [reachBytes] at hw; omega⟩
      intro hne
      have hpos : 0 < len := by
        rcases Nat.eq_zero_or_pos len with h | h
        · subst h; exact absurd rfl hne
        · exact h
      refine ⟨a, rfl, ?_, ?_⟩
      · have := cell_lt (hV 0 (by omega)).1
        rwa [add_block] at this
      · intro j u hu
        have hj : j < len := by
          have := (List.getElem?_eq_some_iff.1 hu).1
          simpa [flt] using this
        simp [flt, hj] at hu
        rw [(hV j (by omega)).1, hff j hj, hu]
set_option maxRecDepth 100000 in
theorem open_region {spare : Nat → Bool} {held : Bool} {r : Reach} {b0 : Nat} {v : Value} {d : DataW H} {p : List MemPlace} (hv : Value.okWide Try.prog W r b0 23 v)
    (h : DataW.Trod enc Try.prog W base spare held 23 v d p) : ∃ X Y K J : Int, v = .agg #[.int .i64 X, .int .i64 Y, .int .i64 K, .int .i64 J] := by
  obtain ⟨cs, rfl, hcs⟩ := okWide_struct Try.underlying23 hv
  rw [cellsRegion] at hcs
  obtain ⟨L⟩ := cs
  match L, hcs with
  | [c0, c1, c2, c3], _ =>
    obtain ⟨fuel, hf⟩ := h
    obtain ⟨r0, r1, r2, r3, m, hx0, _, g0, g1, g2, g3⟩ := trod_struct4 Try.underlying23 hf
    simp [Value.cells, cellsInt] at g0 g1 g2 g3
    obtain ⟨X, e0, _, _⟩ := DataW.trod_int Try.underlying3 g0
    obtain ⟨Y, e1, _, _⟩ := DataW.trod_int Try.underlying3 g1
    obtain ⟨K, e2, _, _⟩ := DataW.trod_int Try.underlying3 g2
    obtain ⟨J, e3, _, _⟩ := DataW.trod_int Try.underlying3 g3
    obtain rfl : c0 = _ := by simpa using e0
    obtain rfl : c1 = _ := by simpa using e1
    obtain rfl : c2 = _ := by simpa using e2
    obtain rfl : c3 = _ := by simpa using e3
    exact ⟨X, Y, K, J, rfl⟩

theorem one_flo {spare : Nat → Bool} {held : Bool} {n : Nat} {v : Value} {y : Option (DataW H × List MemPlace)} (h : DataW.trod enc Try.prog W base spare held n 31 [v] = y) (hy : y.isSome = true) : ∃ b, v = .float .f32 b := by
  obtain ⟨z, rfl⟩ := Option.isSome_iff_exists.1 hy
  obtain ⟨b, e⟩ := trod_flo Try.underlying31 h
  exact ⟨b, by simpa using e⟩
theorem one_int {spare : Nat → Bool} {held : Bool} {n : Nat} {v : Value} {y : Option (DataW H × List MemPlace)} (h : DataW.trod enc Try.prog W base spare held n 3 [v] = y) (hy : y.isSome = true) : ∃ b, v = .int .i64 b := by
  obtain ⟨z, rfl⟩ := Option.isSome_iff_exists.1 hy
  obtain ⟨x, e, _, _⟩ := DataW.trod_int Try.underlying3 h
  exact ⟨x, by simpa using e⟩

theorem cellsCarving : Try.prog.cellsOf 51 = 4 := by kernel_rfl
set_option maxRecDepth 100000 in
theorem open_carving {spare : Nat → Bool} {held : Bool} {r : Reach} {b0 : Nat} {v : Value} {d : DataW H} {p : List MemPlace} (hv : Value.okWide Try.prog W r b0 51 v)
    (h : DataW.Trod enc Try.prog W base spare held 51 v d p) : ∃ (a b c : Nat) (e : Int), v = .agg #[.float .f32 a, .float .f32 b, .float .f32 c, .int .i64 e] := by
  obtain ⟨v0, v1, v2, v3, y0, y1, y2, y3, n, rfl, rfl, rfl, h0, h1, h2, h3⟩ := open_agg4 Try.underlying51 (by kernel_rfl) cellsCarving hv h
  obtain ⟨a, rfl⟩ := one_flo h0 rfl
  obtain ⟨b, rfl⟩ := one_flo h1 rfl
  obtain ⟨c, rfl⟩ := one_flo h2 rfl
  obtain ⟨e, rfl⟩ := one_int h3 rfl
  exact ⟨a, b, c, e, rfl⟩
end
end Go.Proofs.Ytepgfplbkmhgbaa
