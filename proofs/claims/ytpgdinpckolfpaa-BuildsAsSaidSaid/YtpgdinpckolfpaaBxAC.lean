/- Contract: road.Grades. -/
import Derived.Test.YtpgdinpckolfpaaBxAA
import Derived.Test.YtpgdinpckolfpaaBaseA
import Derived.Deep.QuietTactic
import Derived.BigQuiet
import Derived.Test.YtpgdinpckolfpaaRdT
import Derived.Test.YtpgdinpckolfpaaBxAB
import Derived.Deep.AppendLies
namespace Go.Proofs.Ytpgdinpckolfpaa
open Go.RowKit
attribute [local go_sem ↓] Go.wp_at_zero Go.wp_at_succ

theorem value_any (b : Nat) (w : World) (hf : finB b = true) :
    Calls Try.prog 117 #[.float .f32 b] w fun e w' => e = .returned (.tuple #[.float .f32 (if numE [b] = 0 then b else 0), .int .i64 (numE [b])]) ∧ w' = w := by
  have H1 := fun (w : World) => hidA (height_any b w)
  by_cases hh : hgtB b = true
  · have e0 : numE [b] = 0 := numE_ok (by simpa using hf) (by simpa using hh)
    rw [e0, if_pos rfl]
    rw [hh] at H1
    clear hh hf e0
    go_enter Try.func117, Try.ntmps117
    go_wp2_with fail
    refine ((H1 _).out).mono ?_
    rintro e w1 ⟨rfl, rfl⟩
    go_wp2_with fail
    go_ret2
    exact ⟨rfl, rfl⟩
  · have hh' : hgtB b = false := by simpa using hh
    have e0 : numE [b] = 3 := numE_three (k := 0) (by simpa using hf) (by simp) hh'
    rw [e0, if_neg (by decide)]
    rw [hh'] at H1
    clear hh hh' hf e0
    go_enter Try.func117, Try.ntmps117
    go_wp2_with fail
    refine ((H1 _).out).mono ?_
    rintro e w1 ⟨rfl, rfl⟩
    go_wp2_with fail
    go_ret2
    exact ⟨rfl, rfl⟩
end Go.Proofs.Ytpgdinpckolfpaa

namespace Go.Proofs.Ytpgdinpckolfpaa
open Go.RowKit

/-- the cell of a place -/
def kOf (X Y : Int) (Wn : Nat) (p : Int × Int) : Nat := (p.2 - Y).toNat * Wn + (p.1 - X).toNat
theorem kOf_in {X Y : Int} {Wn Hn : Nat} {p : Int × Int} (h : InR X Y Wn Hn p.1 p.2) : kOf X Y Wn p < Wn * Hn ∧ p.1 = X + ((kOf X Y Wn p % Wn : Nat) : Int) ∧ p.2 = Y + ((kOf X Y Wn p / Wn : Nat) : Int) := by
  unfold InR at h
  unfold kOf
  obtain ⟨a, ha⟩ := Int.eq_ofNat_of_zero_le (show 0 ≤ p.1 - X by omega)
  obtain ⟨b, hb⟩ := Int.eq_ofNat_of_zero_le (show 0 ≤ p.2 - Y by omega)
  have h1 : a < Wn := by omega
  have h2 : b < Hn := by omega
  rw [ha, hb, Int.toNat_natCast, Int.toNat_natCast]
  refine ⟨?_, ?_, ?_⟩
  · calc b * Wn + a < b * Wn + Wn := by omega
      _ = (b + 1) * Wn := by rw [Nat.add_mul, Nat.one_mul]
      _ ≤ Hn * Wn := Nat.mul_le_mul_right _ h2
      _ = Wn * Hn := Nat.mul_comm _ _
  · rw [Nat.mul_comm, Nat.mul_add_mod, Nat.mod_eq_of_lt h1]; omega
  · rw [Nat.mul_comm, Nat.mul_add_div (by omega), Nat.div_eq_of_lt h1]; omega
end Go.Proofs.Ytpgdinpckolfpaa

namespace Go.Proofs.Ytpgdinpckolfpaa
open Go.RowKit
attribute [local go_sem ↓] Go.wp_at_zero Go.wp_at_succ
attribute [local go_sem] run_store_float

/-- the height of place i of a way -/
def hgtY (lf : List Nat) (X Y : Int) (Wn : Nat) (l : List (Int × Int)) (i : Nat) : Nat := lf.getD (kOf X Y Wn (l.getD i (0, 0))) 0
theorem cellN_k {X Y : Int} {Wn Hn : Nat} {p : Int × Int} (hr : Reg X Y Wn Hn) (h : InR X Y Wn Hn p.1 p.2) : cellN X Y Wn p.1 p.2 = kOf X Y Wn p := by
  obtain ⟨h1, h2, h3⟩ := kOf_in h
  have h4 := cpt_cell hr (k := kOf X Y Wn p)
  rw [← h2, ← h3] at h4
  exact h4
theorem upd_to {h : Nat → Nat} {k : Nat} : updF (fun j => if j < k then h j else 0) k (h k) = fun j => if j < k + 1 then h j else 0 := by
  funext j
  unfold updF
  by_cases h1 : j = k
  · rw [if_pos h1, if_pos (by omega), h1]
  · rw [if_neg h1]
    dsimp only
    by_cases h2 : j < k
    · rw [if_pos h2, if_pos (by omega)]
    · rw [if_neg h2, if_neg (by omega)]
theorem flo_to {n : Nat} (h : Nat → Nat) : flo n (fun j => if j < n then h j else 0) = flo n h := by
  unfold flo
  congr 1
  apply List.map_congr_left
  intro j hj
  dsimp only
  rw [if_pos (List.mem_range.1 hj)]
theorem flo_zero {n : Nat} (h : Nat → Nat) : flo n (fun j => if j < 0 then h j else 0) = flo n (fun _ => 0) := by
  congr 1
theorem nxt_z {k n : Nat} (h : k < n) : n - (intOf (.int .i64 ((k : Int) + 1))).toNat < n - (intOf (.int .i64 (k : Int))).toNat := by
  simp [intOf]
  omega
set_option maxRecDepth 100000 in
set_option maxHeartbeats 6400000 in
theorem heights_ok (X Y : Int) (Wn Hn : Nat) (A : Option Addr) (N c : Nat) (lf : List Nat) (B : Option Addr) (n d : Nat) (l : List (Int × Int)) (w : World) (hr : Reg X Y Wn Hn) (hN : N = Wn * Hn) (hlf : lf.length = N) (hV : Rd w A (flt lf)) (hn : l.length = n) (hP : Rd w B (ptv l)) (hok : WayOk (outP X Y Wn Hn) l) :
    Calls Try.prog 85 #[.agg #[.int .i64 X, .int .i64 Y, .int .i64 (Wn : Int), .int .i64 (Hn : Int), .slice A N c], .slice B n d] w fun e w' => ∃ g, e = .returned (.slice (some ⟨g, 0, none⟩) n n) ∧ w.heap.size ≤ g ∧ Bk w' g 27 (flo n (hgtY lf X Y Wn l)) ∧ Ext w w' := by
  have hn6 : n ≤ 65536 := by have := hok.le; omega
  have mf := mk_flo n (by omega)
  have Hn' := hidA hn
  have HPl := fun (x y : Int) (w : World) (h : InR X Y Wn Hn x y) => hidA (place_in X Y Wn Hn x y w hr.ok h)
  have Hcl := hidA (fun (p : Int × Int) (h : InR X Y Wn Hn p.1 p.2) => And.intro (cellN_k hr h) (show kOf X Y Wn p < N from by rw [hN]; exact (kOf_in h).1))
  have HV := hidA hV
  have HP := hidA hP
  have Hok := hidA hok
  have Hlf := hidA hlf
  clear hr hN hlf hV hn hP hok
  go_enter Try.func85, Try.ntmps85
  go_upto_region 3 with fail
  clear mf
  obtain ⟨w0, hw0⟩ : ∃ w0, w0 = (w.alloc (.cells #[.int .i64 X, .int .i64 Y, .int .i64 (Wn : Int), .int .i64 (Hn : Int), .slice A N c] 26)).alloc (.cells (flo n fun _ => 0) 27) := ⟨_, rfl⟩
  have kF : Bk w0 w.heap.size 26 #[.int .i64 X, .int .i64 Y, .int .i64 (Wn : Int), .int .i64 (Hn : Int), .slice A N c] := by rw [hw0]; exact (Bk.new' rfl).alloc _
  have kG : Bk w0 (w.heap.size + 1) 27 (flo n fun _ => 0) := by rw [hw0]; exact Bk.new' (by simp)
  have hx0 : Ext w w0 := by rw [hw0]; exact ((Ext.refl w).alloc _).alloc _
  rw [← hw0]
  clear hw0
  have Hg := hidA (show w.heap.size ≤ w.heap.size + 1 by omega)
  generalize w.heap.size + 1 = g at *
  generalize hfe : w.heap.size = hf at kF ⊢
  have Hfe := hidA hfe
  clear hfe
  go_loopw [15] (fun s15 wr => ∃ k : Nat, k ≤ n ∧ s15 = .int .i64 k ∧ Bk wr g 27 (flo n fun j => if j < k then hgtY lf X Y Wn l j else 0) ∧ Bk wr hf 26 #[.int .i64 X, .int .i64 Y, .int .i64 (Wn : Int), .int .i64 (Hn : Int), .slice A N c] ∧ Ext w wr) (fun s15 _ => n - (intOf s15).toNat)
  case atStart => exact ⟨0, Nat.zero_le _, rfl, by rw [flo_zero]; exact kG, kF, hx0⟩
  case round =>
    clear kG kF hx0
    obtain ⟨k, hk, rfl, kG, kF, hx⟩ := hrel
    by_cases hkn : k < n
    · have Hkn := hidA hkn
      obtain ⟨ad, rfl, hbk, d0, d1⟩ := pt_at (HP.out.ext hx) (k := k) (by have := Hn'.out; omega)
      have hin := outP_in (Hok.out.ok k (by have := Hn'.out; omega))
      have hc := Hcl.out _ hin
      have hh : hgtY lf X Y Wn l k = lf.getD (kOf X Y Wn (l.getD k (0, 0))) 0 := rfl
      have i0 : (0 : Int) ≤ k := by omega
      have i1 : (k : Int) < n := by omega
      obtain ⟨px, py, hpp⟩ : ∃ px py, l.getD k (0, 0) = (px, py) := ⟨_, _, rfl⟩
      rw [hpp] at d0 d1 hin hc hh
      dsimp only at d0 d1 hin hc
      have HPq := fun (w : World) => HPl px py w hin
      rw [hc.1] at HPq
      obtain ⟨q, hq⟩ : ∃ q, q = kOf X Y Wn (px, py) := ⟨_, rfl⟩
      rw [← hq] at HPq hc hh
      have hqN := hc.2
      have Hh := hidA hh
      have q0 : (0 : Int) ≤ q := by omega
      have q1 : (q : Int) < N := by omega
      clear hpp hin hc hq hh
      go_upto_region 5 with fail
      have kP : Bk (wr.alloc (.cells #[.int .i64 px, .int .i64 py] 32)) wr.heap.size 32 #[.int .i64 px, .int .i64 py] := Bk.new' rfl
      have kG1 := kG.alloc (.cells #[.int .i64 px, .int .i64 py] 32)
      have kF1 := kF.alloc (.cells #[.int .i64 px, .int .i64 py] 32)
      have hx1 := hx.alloc (.cells #[.int .i64 px, .int .i64 py] 32)
      clear d0 d1 kG kF hx
      generalize wr.alloc (.cells #[.int .i64 px, .int .i64 py] 32) = w1 at *
      generalize wr.heap.size = ha at *
      have p0 := kP.cell 0
      have p1 := kP.cell 1
      have f0 := kF1.cell 0
      have f1 := kF1.cell 1
      have f2 := kF1.cell 2
      have f3 := kF1.cell 3
      go_upto_region 6 with (go_at_call 71; refine ((HPq _).out).mono ?_; rintro e w2 ⟨rfl, hx2⟩)
      clear p0 p1 f0 f1 f2 f3 kP
      have kG2 := kG1.ext hx2
      have kF2 := kF1.ext hx2
      have hx3 := hx1.trans hx2
      have f4 := kF2.cell 4
      obtain ⟨adF, rfl, _, hcv⟩ := (HV.out.ext hx3).at (k := q) (by simp [flt]; have := Hlf.out; omega)
      have v1 := hcv q _ (flt_get (l := lf) (by have := Hlf.out; omega))
      have g1 : w2.cell? ⟨g, k, none⟩ = some (.float .f32 (if k < k then hgtY lf X Y Wn l k else 0)) := by rw [kG2.cell]; exact flo_get _ Hkn.out
      have fz := kG2.frozen k
      have hxv : lf[q]'(by have := Hlf.out; omega) = hgtY lf X Y Wn l k := by rw [Hh.out]; simp [List.getD_eq_getElem?_getD, show q < lf.length by have := Hlf.out; omega]
      rw [hxv] at v1
      have kG3 := kG2.set k (.float .f32 (hgtY lf X Y Wn l k))
      rw [flo_set, upd_to] at kG3
      have kF3 := kF2.far (p := ⟨g, k, none⟩) (Bk.ne kF2 kG2 (by decide)) (.float .f32 (hgtY lf X Y Wn l k))
      have hx4 := hx3.setCell (p := ⟨g, k, none⟩) Hg.out (.float .f32 (hgtY lf X Y Wn l k))
      have K := hidA (And.intro kG3 (And.intro kF3 hx4))
      clear kG1 kF1 kG2 kF2 hx1 hx2 hx3 hcv hxv kG3 kF3 hx4 Hh
      generalize hgtY lf X Y Wn l k = hv at v1 K ⊢
      go_wp2
      go_roundw
      case rel => exact ⟨k + 1, Hkn.out, (by first | rfl | go_num), K.out.1, K.out.2.1, K.out.2.2⟩
      case measure => exact nxt_z Hkn.out
    · obtain rfl : k = n := by omega
      rw [flo_to] at kG
      have HG := hidA kG
      clear kG hk hkn
      go_wp2
      go_ret
      exact ⟨g, rfl, by have := Hg.out; have := Hfe.out; omega, HG.out, hx⟩
end Go.Proofs.Ytpgdinpckolfpaa

namespace Go.Proofs.Ytpgdinpckolfpaa
open Go.RowKit
attribute [local go_sem ↓] Go.wp_at_zero Go.wp_at_succ
attribute [local go_sem] run_store_float

/-- the heights of the first i places -/
def vlL (lf : List Nat) (X Y : Int) (Wn : Nat) (l : List (Int × Int)) : Nat → List Nat
  | 0 => []
  | i + 1 => vlL lf X Y Wn l i ++ [hgtY lf X Y Wn l i]
theorem vlL_length (lf : List Nat) (X Y : Int) (Wn : Nat) (l : List (Int × Int)) : ∀ i, (vlL lf X Y Wn l i).length = i
  | 0 => rfl
  | i + 1 => by rw [vlL, List.length_append, vlL_length lf X Y Wn l i]; rfl
set_option maxRecDepth 100000 in
set_option maxHeartbeats 6400000 in
theorem Values_any (X Y : Int) (Wn Hn : Nat) (A : Option Addr) (N c : Nat) (lf : List Nat) (B : Option Addr) (n d : Nat) (l : List (Int × Int)) (w : World) (hr : Reg X Y Wn Hn) (hN : N = Wn * Hn) (hlf : lf.length = N) (hV : Rd w A (flt lf)) (hn : l.length = n) (hP : Rd w B (ptv l)) (hok : WayOk (outP X Y Wn Hn) l) :
    Calls Try.prog 50 #[.agg #[.int .i64 X, .int .i64 Y, .int .i64 (Wn : Int), .int .i64 (Hn : Int), .slice A N c], .slice B n d] w fun e w' => ∃ v, e = .returned v ∧ OwnFl w' w.heap.size v (vlL lf X Y Wn l n) ∧ Ext w w' := by
  have hn6 : n ≤ 65536 := by have := hok.le; omega
  have hNp : 0 < N := by
    have h0 := (kOf_in (outP_in (hok.ok 0 (by have := hok.pos; omega)))).1
    omega
  obtain ⟨adF, rfl, _, _⟩ := hV (by intro e; have : lf.length = 0 := by simpa [flt] using congrArg List.length e
                                    omega)
  have Hn' := hidA hn
  have HPl := fun (x y : Int) (w : World) (h : InR X Y Wn Hn x y) => hidA (cell_any X Y Wn Hn x y w hr.ok h)
  have Hcl := hidA (fun (p : Int × Int) (h : InR X Y Wn Hn p.1 p.2) => And.intro (cellN_k hr h) (show kOf X Y Wn p < N from by rw [hN]; exact (kOf_in h).1))
  have HV := hidA hV
  have HP := hidA hP
  have Hok := hidA hok
  have Hlf := hidA hlf
  obtain ⟨ti, hi0, hz0, hz1, hz2⟩ := info_parts infoFlo
  clear hr hN hlf hV hn hP hok hNp
  go_enter Try.func50, Try.ntmps50
  go_upto_region 3 with fail
  have kF : Bk (w.alloc (.cells #[.int .i64 X, .int .i64 Y, .int .i64 (Wn : Int), .int .i64 (Hn : Int), .slice (some adF) N c] 26)) w.heap.size 26 #[.int .i64 X, .int .i64 Y, .int .i64 (Wn : Int), .int .i64 (Hn : Int), .slice (some adF) N c] := Bk.new' rfl
  have hx0 : Ext w (w.alloc (.cells #[.int .i64 X, .int .i64 Y, .int .i64 (Wn : Int), .int .i64 (Hn : Int), .slice (some adF) N c] 26)) := (Ext.refl w).alloc _
  generalize w.alloc (.cells #[.int .i64 X, .int .i64 Y, .int .i64 (Wn : Int), .int .i64 (Hn : Int), .slice (some adF) N c] 26) = w0 at *
  generalize hfe : w.heap.size = hf at kF ⊢
  have Hfe := hidA hfe
  clear hfe
  go_loopw [5, 10] (fun s5 s10 wr => ∃ k : Nat, k ≤ n ∧ s10 = .int .i64 k ∧ OwnFl wr w.heap.size s5 (vlL lf X Y Wn l k) ∧ s5.ownBlock ≠ some hf ∧ Bk wr hf 26 #[.int .i64 X, .int .i64 Y, .int .i64 (Wn : Int), .int .i64 (Hn : Int), .slice (some adF) N c] ∧ Ext w wr) (fun _ s10 _ => n - (intOf s10).toNat)
  case atStart => exact ⟨0, Nat.zero_le _, rfl, World.ownsRow_nil _ _ _ _, (by simp [Value.ownBlock]), kF, hx0⟩
  case round =>
    clear kF hx0
    obtain ⟨k, hk, rfl, hO, hnf, kF, hx⟩ := hrel
    by_cases hkn : k < n
    · have Hkn := hidA hkn
      obtain ⟨ad, rfl, hbk, d0, d1⟩ := pt_at (HP.out.ext hx) (k := k) (by have := Hn'.out; omega)
      have hin := outP_in (Hok.out.ok k (by have := Hn'.out; omega))
      have hc := Hcl.out _ hin
      have hh : hgtY lf X Y Wn l k = lf.getD (kOf X Y Wn (l.getD k (0, 0))) 0 := rfl
      have i0 : (0 : Int) ≤ k := by omega
      have i1 : (k : Int) < n := by omega
      obtain ⟨px, py, hpp⟩ : ∃ px py, l.getD k (0, 0) = (px, py) := ⟨_, _, rfl⟩
      rw [hpp] at d0 d1 hin hc hh
      dsimp only at d0 d1 hin hc
      have HPq := fun (w : World) => HPl px py w hin
      rw [hc.1] at HPq
      obtain ⟨q, hq⟩ : ∃ q, q = kOf X Y Wn (px, py) := ⟨_, rfl⟩
      rw [← hq] at HPq hc hh
      have hqN := hc.2
      have Hnx := hidA (show vlL lf X Y Wn l (k + 1) = vlL lf X Y Wn l k ++ [lf.getD q 0] from by rw [vlL, hh])
      obtain ⟨x, hxl⟩ : ∃ x, x = lf.getD q 0 := ⟨_, rfl⟩
      rw [← hxl] at Hnx
      have q0 : (0 : Int) ≤ q := by omega
      have q1 : (q : Int) < N := by omega
      have KW : ∀ w', Ext w w' → w'.cell? (adF.add q) = some (.float .f32 x) := fun w' h => by
        obtain ⟨a, e, _, hcv⟩ := (HV.out.ext h).at (k := q) (by simp [flt]; have := Hlf.out; omega)
        injection e with e
        subst e
        have v1 := hcv q _ (flt_get (l := lf) (by have := Hlf.out; omega))
        rw [v1, hxl]
        simp [List.getD_eq_getElem?_getD, show q < lf.length by have := Hlf.out; omega]
      have Hlen := hidA (show (vlL lf X Y Wn l k).length ≤ 65536 from by rw [vlL_length]; omega)
      clear hpp hin hc hq hh hxl
      go_upto_region 5 with fail
      have kB : Bk (wr.alloc (.cells #[.int .i64 px, .int .i64 py] 32)) wr.heap.size 32 #[.int .i64 px, .int .i64 py] := Bk.new' rfl
      have hxw := (Ext.refl wr).alloc (.cells #[.int .i64 px, .int .i64 py] 32)
      have hnB : u5.ownBlock ≠ some wr.heap.size := fun e => Nat.lt_irrefl _ (World.ownsRow.lt hO _ e).2
      have Hnb := hidA hnB
      have Hnf := hidA hnf
      have hO4 := hO.ext hxw
      have kF4 := kF.ext hxw
      have hx4 := hx.trans hxw
      clear d0 d1 hO hx hxw hnB kF hnf
      generalize wr.alloc (.cells #[.int .i64 px, .int .i64 py] 32) = w4 at *
      generalize wr.heap.size = hb at *
      have KS : ∀ w', Ext w4 w' → (fun w' => (w'.cell? ⟨hf, 0, none⟩ = some (.int .i64 X) ∧ w'.cell? ⟨hf, 1, none⟩ = some (.int .i64 Y) ∧ w'.cell? ⟨hf, 2, none⟩ = some (.int .i64 (Wn : Int)) ∧ w'.cell? ⟨hf, 3, none⟩ = some (.int .i64 (Hn : Int)) ∧ w'.cell? ⟨hf, 4, none⟩ = some (.slice (some adF) N c)) ∧ (w'.cell? ⟨hb, 0, none⟩ = some (.int .i64 px) ∧ w'.cell? ⟨hb, 1, none⟩ = some (.int .i64 py)) ∧ w'.cell? (adF.add q) = some (.float .f32 x)) w' := fun w' h => ⟨⟨(kF4.ext h).cell 0, (kF4.ext h).cell 1, (kF4.ext h).cell 2, (kF4.ext h).cell 3, (kF4.ext h).cell 4⟩, ⟨(kB.ext h).cell 0, (kB.ext h).cell 1⟩, KW _ (hx4.trans h)⟩
      have hone : Hid (∀ u ∈ ([.float .f32 x] : List Value), u.oneCell' = true) := by intro u hu; simp at hu; subst hu; rfl
      have hmx2 := hidA (maxY Hlen.out).1
      have hmb := hidA (maxY Hlen.out).2
      have hltB := kB.lt
      have hltF := kF4.lt
      refine wp_region_noPanic ?_
      refine wp_region_held_drew (S := fun w' => (w'.cell? ⟨hf, 0, none⟩ = some (.int .i64 X) ∧ w'.cell? ⟨hf, 1, none⟩ = some (.int .i64 Y) ∧ w'.cell? ⟨hf, 2, none⟩ = some (.int .i64 (Wn : Int)) ∧ w'.cell? ⟨hf, 3, none⟩ = some (.int .i64 (Hn : Int)) ∧ w'.cell? ⟨hf, 4, none⟩ = some (.slice (some adF) N c)) ∧ (w'.cell? ⟨hb, 0, none⟩ = some (.int .i64 px) ∧ w'.cell? ⟨hb, 1, none⟩ = some (.int .i64 py)) ∧ w'.cell? (adF.add q) = some (.float .f32 x)) (by kernel_rfl) ?_ (fun hHeld => ?_)
      · (first | exact hS9 | exact KS _ (by repeat (first | exact Ext.refl _ | assumption | refine Ext.setCell ?_ (by first | (simp; done) | (simp; omega)) _ | refine Ext.drewN ?_ _ | refine Ext.alloc ?_ _ | refine Ext.drew ?_ | refine Ext.trans ?_ (by assumption))))
      refine wpAnyH_take (i := 0) (oi := ?o1x0) (v := ?v1x0) ?hi1x0 (by kernel_rfl) ?hf1x0 ?hr1x0 (fun _ _ _ h => h) ?hy1x0 (by assumption) ?rest1x0
      case hi1x0 => (simp only [List.getElem?_toArray, List.getElem?_cons_zero]; exact rfl)
      case hf1x0 => kernel_rfl
      case hr1x0 => kernel_rfl
      case hy1x0 => (refine Or.inl ⟨by rfl, ?_⟩; intro w hSw; (try dsimp only at hSw); go_simp; try with_reducible rfl)
      simp only [put_mk, List.set_cons_succ, List.set_cons_zero]
      refine wpAnyH_take (i := 1) (oi := ?o1x1) (v := ?v1x1) ?hi1x1 (by kernel_rfl) ?hf1x1 ?hr1x1 (fun _ _ _ h => h) ?hy1x1 (by assumption) ?rest1x1
      case hi1x1 => (simp only [List.getElem?_toArray, List.getElem?_cons_succ, List.getElem?_cons_zero]; exact rfl)
      case hf1x1 => kernel_rfl
      case hr1x1 => kernel_rfl
      case hy1x1 => (refine Or.inl ⟨by rfl, ?_⟩; intro w hSw; (try dsimp only at hSw); go_simp; try with_reducible rfl)
      simp only [put_mk, List.set_cons_succ, List.set_cons_zero]
      refine wpAnyH_take (i := 2) (oi := ?o1x2) (v := ?v1x2) ?hi1x2 (by kernel_rfl) ?hf1x2 ?hr1x2 (fun _ _ _ h => h) ?hy1x2 (by assumption) ?rest1x2
      case hi1x2 => (simp only [List.getElem?_toArray, List.getElem?_cons_succ, List.getElem?_cons_zero]; exact rfl)
      case hf1x2 => kernel_rfl
      case hr1x2 => kernel_rfl
      case hy1x2 => (refine Or.inl ⟨by rfl, ?_⟩; intro w hSw; (try dsimp only at hSw); go_simp; try with_reducible rfl)
      simp only [put_mk, List.set_cons_succ, List.set_cons_zero]
      refine wpAnyH_take (i := 3) (oi := ?o1x3) (v := ?v1x3) ?hi1x3 (by kernel_rfl) ?hf1x3 ?hr1x3 (fun _ _ _ h => h) ?hy1x3 (by assumption) ?rest1x3
      case hi1x3 => (simp only [List.getElem?_toArray, List.getElem?_cons_succ, List.getElem?_cons_zero]; exact rfl)
      case hf1x3 => kernel_rfl
      case hr1x3 => kernel_rfl
      case hy1x3 => (refine Or.inl ⟨by rfl, ?_⟩; intro w hSw; (try dsimp only at hSw); go_simp; try with_reducible rfl)
      simp only [put_mk, List.set_cons_succ, List.set_cons_zero]
      refine wpAnyH_take (i := 4) (oi := ?o1x4) (v := ?v1x4) ?hi1x4 (by kernel_rfl) ?hf1x4 ?hr1x4 (fun _ _ _ h => h) ?hy1x4 (by assumption) ?rest1x4
      case hi1x4 => (simp only [List.getElem?_toArray, List.getElem?_cons_succ, List.getElem?_cons_zero]; exact rfl)
      case hf1x4 => kernel_rfl
      case hr1x4 => kernel_rfl
      case hy1x4 => (refine Or.inl ⟨by rfl, ?_⟩; intro w hSw; (try dsimp only at hSw); go_simp; try with_reducible rfl)
      simp only [put_mk, List.set_cons_succ, List.set_cons_zero]
      refine wpAnyH_take (i := 5) (oi := ?o1x5) (v := ?v1x5) ?hi1x5 (by kernel_rfl) ?hf1x5 ?hr1x5 (fun _ _ _ h => h) ?hy1x5 (by assumption) ?rest1x5
      case hi1x5 => (simp only [List.getElem?_toArray, List.getElem?_cons_succ, List.getElem?_cons_zero]; exact rfl)
      case hf1x5 => kernel_rfl
      case hr1x5 => kernel_rfl
      case hy1x5 => (refine Or.inl ⟨by rfl, ?_⟩; intro w hSw; (try dsimp only at hSw); go_simp; try with_reducible rfl)
      simp only [put_mk, List.set_cons_succ, List.set_cons_zero]
      refine wpAnyH_take (i := 6) (oi := ?o1x6) (v := ?v1x6) ?hi1x6 (by kernel_rfl) ?hf1x6 ?hr1x6 (fun _ _ _ h => h) ?hy1x6 (by assumption) ?rest1x6
      case hi1x6 => (simp only [List.getElem?_toArray, List.getElem?_cons_succ, List.getElem?_cons_zero]; exact rfl)
      case hf1x6 => kernel_rfl
      case hr1x6 => kernel_rfl
      case hy1x6 => (refine Or.inl ⟨by rfl, ?_⟩; intro w hSw; (try dsimp only at hSw); go_simp; try with_reducible rfl)
      simp only [put_mk, List.set_cons_succ, List.set_cons_zero]
      refine wpAnyH_take (i := 7) (oi := ?o1x7) (v := ?v1x7) ?hi1x7 (by kernel_rfl) ?hf1x7 ?hr1x7 (fun _ _ _ h => h) ?hy1x7 (by assumption) ?rest1x7
      case hi1x7 => (simp only [List.getElem?_toArray, List.getElem?_cons_succ, List.getElem?_cons_zero]; exact rfl)
      case hf1x7 => kernel_rfl
      case hr1x7 => kernel_rfl
      case hy1x7 => (refine Or.inl ⟨by rfl, ?_⟩; intro w hSw; (try dsimp only at hSw); go_simp; try with_reducible rfl)
      simp only [put_mk, List.set_cons_succ, List.set_cons_zero]
      refine wpAnyH_take (i := 8) (oi := ?o1x8) (v := ?v1x8) ?hi1x8 (by kernel_rfl) ?hf1x8 ?hr1x8 (fun _ _ _ h => h) ?hy1x8 (by assumption) ?rest1x8
      case hi1x8 => (simp only [List.getElem?_toArray, List.getElem?_cons_succ, List.getElem?_cons_zero]; exact rfl)
      case hf1x8 => kernel_rfl
      case hr1x8 => kernel_rfl
      case hy1x8 => (refine Or.inl ⟨by rfl, ?_⟩; intro w hSw; (try dsimp only at hSw); go_simp; try with_reducible rfl)
      simp only [put_mk, List.set_cons_succ, List.set_cons_zero]
      refine wpAnyH_ready (rs := [9]) (by kernel_rfl) (by simp) ?_
      refine AllReadyH.cons (o := ?o1x9) ?hi1x9 (fun K hK => ?_) AllReadyH.nil
      case hi1x9 => (simp only [List.getElem?_toArray, List.getElem?_cons_succ, List.getElem?_cons_zero]; exact rfl)
      go_simp
      go_at_call 66
      refine ((HPq _).out).mono ?_
      rintro e wb ⟨rfl, hxb⟩
      refine hK.out _ _ ?_ (fun hHeld => ?_)
      · (first | exact hS9 | exact KS _ (by repeat (first | exact Ext.refl _ | assumption | refine Ext.setCell ?_ (by first | (simp; done) | (simp; omega)) _ | refine Ext.drewN ?_ _ | refine Ext.alloc ?_ _ | refine Ext.drew ?_ | refine Ext.trans ?_ (by assumption))))
      clear hK K
      refine wpAnyH_take (i := 10) (oi := ?o1x10) (v := ?v1x10) ?hi1x10 (by kernel_rfl) ?hf1x10 ?hr1x10 (fun _ _ _ h => h) ?hy1x10 (by assumption) ?rest1x10
      case hi1x10 => (simp only [List.getElem?_toArray, List.getElem?_cons_succ, List.getElem?_cons_zero]; exact rfl)
      case hf1x10 => kernel_rfl
      case hr1x10 => kernel_rfl
      case hy1x10 => (refine Or.inl ⟨by rfl, ?_⟩; intro w hSw; (try dsimp only at hSw); go_simp; try with_reducible rfl)
      simp only [put_mk, List.set_cons_succ, List.set_cons_zero]
      refine wpAnyH_take (i := 11) (oi := ?o1x11) (v := ?v1x11) ?hi1x11 (by kernel_rfl) ?hf1x11 ?hr1x11 (fun _ _ _ h => h) ?hy1x11 (by assumption) ?rest1x11
      case hi1x11 => (simp only [List.getElem?_toArray, List.getElem?_cons_succ, List.getElem?_cons_zero]; exact rfl)
      case hf1x11 => kernel_rfl
      case hr1x11 => kernel_rfl
      case hy1x11 => (refine Or.inl ⟨by rfl, ?_⟩; intro w hSw; (try dsimp only at hSw); go_simp; try with_reducible rfl)
      simp only [put_mk, List.set_cons_succ, List.set_cons_zero]
      refine wpAnyH_ready (rs := [12]) (by kernel_rfl) (by simp) ?_
      refine AllReadyH.cons (o := ?o1x12) ?hi1x12 (fun K hK => ?_) AllReadyH.nil
      case hi1x12 => (simp only [List.getElem?_toArray, List.getElem?_cons_succ, List.getElem?_cons_zero]; exact rfl)
      go_simp
      have hxe : Ext w4 (wb.alloc (.cells #[.float .f32 x] 27)) := (show Ext w4 wb from (by repeat (first | exact Ext.refl _ | assumption | refine Ext.setCell ?_ (by first | (simp; done) | (simp; omega)) _ | refine Ext.drewN ?_ _ | refine Ext.alloc ?_ _ | refine Ext.drew ?_ | refine Ext.trans ?_ (by assumption)))).alloc _
      have hxa := hidA (hx4.trans hxe)
      have kBa := hidA (kB.ext hxe)
      have kFa := hidA (kF4.ext hxe)
      have hown2 := hidA (hO4.ext hxe)
      have hnews : Hid (∀ j u, ([.float .f32 x] : List Value)[j]? = some u → (wb.alloc (.cells #[.float .f32 x] 27)).cell? ((⟨wb.heap.size, 0, none⟩ : Addr).add j) = some u) := World.news_of_block (cs := #[.float .f32 x]) (t := 27) (fr := (0, 0)) (heap_alloc_new wb _)
      have hs9 := hidA (show w.heap.size ≤ (wb.alloc (.cells #[.float .f32 x] 27)).heap.size from hxa.out.size)
      have hsz1 := hidA (show (wb.alloc (.cells #[.float .f32 x] 27)).heap.size = wb.heap.size + 1 from by rw [World.size_alloc])
      refine hK.out _ _ ?_ (fun hHeld => ?_)
      · (first | exact hS9 | exact KS _ (by repeat (first | exact Ext.refl _ | assumption | refine Ext.setCell ?_ (by first | (simp; done) | (simp; omega)) _ | refine Ext.drewN ?_ _ | refine Ext.alloc ?_ _ | refine Ext.drew ?_ | refine Ext.trans ?_ (by assumption))))
      clear hK K
      refine wpAnyH_ready (rs := [13]) (by kernel_rfl) (by simp) ?_
      refine AllReadyH.cons (o := ?o1x13) ?hi1x13 (fun K hK => ?_) AllReadyH.nil
      case hi1x13 => (simp only [List.getElem?_toArray, List.getElem?_cons_succ, List.getElem?_cons_zero]; exact rfl)
      refine step_append_lies _ (by rfl) (.tmp 14) (.tmp 26) 24 (by rfl) w.heap.size 27 ti (.float .f32 0) 1 4 Try.underlying24 hi0 hz0 hz1 hz2 (by rfl) (by decide) _ _ _ (by rfl) hown2.out ⟨wb.heap.size, 0, none⟩ 1 1 [.float .f32 x] (by rfl) (by rfl) hnews.out hone.out (by omega) hmx2.out hmb.out hs9.out (wb.heap.size + 1) hsz1.out ?_
      intro gg cap9 w9 hown9 hgrow9 hat hlt
      have hx9 : Ext w w9 := hxa.out.grown hgrow9 (fun b hb => (World.ownsRow.lt hown2.out b hb).1)
      have kB9 : Bk w9 hb 32 #[.int .i64 px, .int .i64 py] := kBa.out.grown hgrow9 (fun e => Hnb.out e.symm)
      have kF9 : Bk w9 hf 26 #[.int .i64 X, .int .i64 Y, .int .i64 (Wn : Int), .int .i64 (Hn : Int), .slice (some adF) N c] := kFa.out.grown hgrow9 (fun e => Hnf.out e.symm)
      have hS9 : (fun w' => (w'.cell? ⟨hf, 0, none⟩ = some (.int .i64 X) ∧ w'.cell? ⟨hf, 1, none⟩ = some (.int .i64 Y) ∧ w'.cell? ⟨hf, 2, none⟩ = some (.int .i64 (Wn : Int)) ∧ w'.cell? ⟨hf, 3, none⟩ = some (.int .i64 (Hn : Int)) ∧ w'.cell? ⟨hf, 4, none⟩ = some (.slice (some adF) N c)) ∧ (w'.cell? ⟨hb, 0, none⟩ = some (.int .i64 px) ∧ w'.cell? ⟨hb, 1, none⟩ = some (.int .i64 py)) ∧ w'.cell? (adF.add q) = some (.float .f32 x)) w9 := ⟨⟨kF9.cell 0, kF9.cell 1, kF9.cell 2, kF9.cell 3, kF9.cell 4⟩, ⟨kB9.cell 0, kB9.cell 1⟩, KW _ hx9⟩
      refine hK.out _ _ ?_ (fun hHeld => ?_)
      · (first | exact hS9 | exact KS _ (by repeat (first | exact Ext.refl _ | assumption | refine Ext.setCell ?_ (by first | (simp; done) | (simp; omega)) _ | refine Ext.drewN ?_ _ | refine Ext.alloc ?_ _ | refine Ext.drew ?_ | refine Ext.trans ?_ (by assumption))))
      clear hK K
      simp only [put_mk, List.set_cons_succ, List.set_cons_zero]
      refine wpAnyH_take (i := 14) (oi := ?o1x14) (v := ?v1x14) ?hi1x14 (by kernel_rfl) ?hf1x14 ?hr1x14 (fun _ _ _ h => h) ?hy1x14 (by assumption) ?rest1x14
      case hi1x14 => (simp only [List.getElem?_toArray, List.getElem?_cons_succ, List.getElem?_cons_zero]; exact rfl)
      case hf1x14 => kernel_rfl
      case hr1x14 => kernel_rfl
      case hy1x14 => (refine Or.inl ⟨by rfl, ?_⟩; intro w hSw; (try dsimp only at hSw); go_simp; try with_reducible rfl)
      simp only [put_mk, List.set_cons_succ, List.set_cons_zero]
      refine wpAnyH_done (by kernel_rfl) ?_ _
      refine NoPanic.normal ?_
      have HO9 := hidA (show OwnFl w9 w.heap.size (.slice (some ⟨gg, 0, none⟩) ((vlL lf X Y Wn l k).length + 1) cap9) (vlL lf X Y Wn l (k + 1)) from by
        rw [Hnx.out]
        exact OwnFl.push hown9)
      have hnf9 := hidA (fun (z : Nat) => show (Value.slice (some ⟨gg, 0, none⟩) z cap9).ownBlock ≠ some hf from by
        intro e
        simp only [Value.ownBlock, Option.some.injEq] at e
        rcases hat with h | h
        · rw [e] at h; exact Hnf.out h
        · have := kFa.out.lt; have := hsz1.out; omega)
      have Hx9 := hidA hx9
      have KF9 := hidA kF9
      clear Hnx Hlen hxa kBa kFa Hnb Hnf hown2 hnews hone hs9 hsz1 hmx2 hmb KS KW hltB hltF hown9 hgrow9 hat hlt hx9 kB9 kF9 hS9 hHeld kB hO4 kF4 hx4 hxe
      go_wp2
      go_roundw
      case rel => exact ⟨k + 1, Hkn.out, (by first | rfl | go_num), HO9.out, hnf9.out _, KF9.out, Hx9.out⟩
      case measure => exact nxt_z Hkn.out
    · obtain rfl : k = n := by omega
      have HO := hidA hO
      clear hO hk hkn
      go_wp2
      go_ret
      exact ⟨_, rfl, HO.out, hx⟩
end Go.Proofs.Ytpgdinpckolfpaa

namespace Go.Proofs.Ytpgdinpckolfpaa
open Go.RowKit
attribute [local go_sem ↓] Go.wp_at_zero Go.wp_at_succ
attribute [local go_sem] run_store_float

set_option maxRecDepth 100000 in
set_option maxHeartbeats 1600000 in
theorem values_any (A : Option Addr) (n c : Nat) (l : List Nat) (w : World) (hn : l.length = n) (hV : Rd w A (flt l)) (hn6 : n ≤ 65536) (hf : ∀ x, x ∈ l → finB x = true) :
    Calls Try.prog 87 #[.slice A n c] w fun e w' => e = .returned (.tuple #[if numE l = 0 then .slice A n c else .slice none 0 0, .int .i64 (numE l)]) ∧ w' = w := by
  have Hn := hidA hn
  have Hf := hidA hf
  have HVa := fun (b : Nat) (w : World) (h : finB b = true) => hidA (value_any b w h)
  clear hn hf
  generalize hVe : (if numE l = 0 then Value.slice A n c else Value.slice none 0 0) = V
  have HVe := hidA hVe
  clear hVe
  generalize hEe : numE l = E
  have HE := hidA hEe
  clear hEe
  go_enter Try.func87, Try.ntmps87
  go_upto_region 2 with fail
  go_loopw [10] (fun s10 wr => ∃ k : Nat, k ≤ n ∧ s10 = .int .i64 k ∧ (∀ j (hj : j < l.length), j < k → hgtB l[j] = true) ∧ wr = w) (fun s10 _ => n - (intOf s10).toNat)
  case atStart => exact ⟨0, Nat.zero_le _, rfl, fun j _ h => absurd h (Nat.not_lt_zero j), rfl⟩
  case round =>
    obtain ⟨k, hk, rfl, hg, hwr⟩ := hrel
    subst hwr
    by_cases hkn : k < n
    · have Hkn := hidA hkn
      have hkl : k < l.length := by have := Hn.out; omega
      obtain ⟨ad, rfl, _, hcv⟩ := hV.at (k := k) (by simpa [flt] using hkl)
      have v1 := hcv k _ (flt_get hkl)
      have hfk := Hf.out _ (List.getElem_mem hkl)
      have i0 : (0 : Int) ≤ k := by omega
      have i1 : (k : Int) < n := by omega
      have HV1 := fun (w : World) => HVa l[k] w hfk
      have Hg := hidA hg
      clear hcv hg
      cases hh : hgtB l[k]
      · have e0 : numE [l[k]] = 3 := numE_three (k := 0) (by simpa using hfk) (by simp) hh
        have e1 : numE l = 3 := numE_three (k := k) (fun b hb => Hf.out b hb) hkl hh
        rw [e0, if_neg (by decide)] at HV1
        have HE3 := hidA (show E = 3 from HE.out.symm.trans e1)
        have HV3 := hidA (show V = Value.slice none 0 0 from by rw [← HVe.out, e1]; rfl)
        clear hh e0 e1 hfk
        generalize l[k] = x at *
        go_wp2_with (go_at_call 117; refine ((HV1 _).out).mono ?_; rintro e w1 ⟨rfl, hw1⟩; subst w1)
        go_ret2
        exact ⟨by rw [HE3.out, HV3.out]; rfl, by first | rfl | trivial⟩
      · have e0 : numE [l[k]] = 0 := numE_ok (by simpa using hfk) (by simpa using hh)
        rw [e0, if_pos rfl] at HV1
        have Hg2 := hidA (show ∀ j (hj : j < l.length), j < k + 1 → hgtB l[j] = true from fun j hj h => by
          by_cases e : j = k
          · subst e; exact hh
          · exact Hg.out j hj (by omega))
        clear hh e0 hfk
        generalize l[k] = x at *
        go_wp2_with (go_at_call 117; refine ((HV1 _).out).mono ?_; rintro e w1 ⟨rfl, hw1⟩; subst w1)
        go_roundw
        case rel => exact ⟨k + 1, Hkn.out, (by first | rfl | go_num), Hg2.out, (by first | rfl | trivial)⟩
        case measure => exact nxt_z Hkn.out
    · obtain rfl : k = n := by omega
      have e1 : numE l = 0 := numE_ok (fun b hb => Hf.out b hb) (fun b hb => by
        obtain ⟨j, hj, rfl⟩ := List.mem_iff_getElem.1 hb
        exact hg j hj (by have := Hn.out; omega))
      have HE3 := hidA (show E = 0 from HE.out.symm.trans e1)
      have HV3 := hidA (show V = Value.slice A k c from by rw [← HVe.out, e1]; rfl)
      clear hg hk hkn e1
      go_wp2
      go_ret2
      exact ⟨by rw [HE3.out, HV3.out]; rfl, by first | rfl | trivial⟩
end Go.Proofs.Ytpgdinpckolfpaa

namespace Go.Proofs.Ytpgdinpckolfpaa
open Go.RowKit
attribute [local go_sem ↓] Go.wp_at_zero Go.wp_at_succ
attribute [local go_sem] run_store_float

/-- the grades of the first i steps -/
def grL (lf : List Nat) (X Y : Int) (Wn : Nat) (l : List (Int × Int)) : Nat → List Nat
  | 0 => []
  | i + 1 => grL lf X Y Wn l i ++ [grF (hgtY lf X Y Wn l i) (hgtY lf X Y Wn l (i + 1)) (lenR (lpo l (i + 1)).1 (lpo l (i + 1)).2)]
theorem grL_length (lf : List Nat) (X Y : Int) (Wn : Nat) (l : List (Int × Int)) : ∀ i, (grL lf X Y Wn l i).length = i
  | 0 => rfl
  | i + 1 => by rw [grL, List.length_append, grL_length lf X Y Wn l i]; rfl
theorem OwnFl.any {w : World} {base : Nat} {v : Value} {xs : List Nat} (h : OwnFl w base v xs) : ∃ A cap, v = .slice A xs.length cap ∧ Rd w A (flt xs) := by
  rcases h.2 with ⟨h1, h2⟩ | ⟨g, cap, cur, hv, _⟩
  · have hx : xs = [] := List.eq_nil_of_length_eq_zero h2
    subst hx
    exact ⟨none, 0, h1, Rd.nil _ _⟩
  · subst hv
    exact ⟨_, cap, rfl, Rd.of_own h⟩
theorem lnL_get (l : List (Int × Int)) : ∀ (m i : Nat), i < m → (lnL l m).getD i 0 = lenR (lpo l (i + 1)).1 (lpo l (i + 1)).2
  | m + 1, i, h => by
    rw [lnL]
    by_cases e : i = m
    · subst e
      simp [List.getD_eq_getElem?_getD, lnL_length]
    · have ih := lnL_get l m i (by omega)
      rw [← ih]
      simp only [List.getD_eq_getElem?_getD]
      rw [List.getElem?_append_left (by rw [lnL_length]; omega)]
theorem Grades_bad (X Y W H : Int) (A : Option Addr) (N c : Nat) (lf : List Nat) (B : Option Addr) (q d : Nat) (l : List (Int × Int)) (w : World) (hn : lf.length = N) (hV : Rd w A (flt lf)) (hb : N ≤ 140737488351232) (hq : l.length = q) (hP : Rd w B (ptv l)) (hE : (if fieldE X Y W H lf ≠ 0 then fieldE X Y W H lf else wayE (outP X Y W H) l) ≠ 0) :
    Calls Try.prog 48 #[.agg #[.int .i64 X, .int .i64 Y, .int .i64 W, .int .i64 H, .slice A N c], .slice B q d] w fun e w' => e = .returned (.tuple #[.slice none 0 0, .int .i64 (if fieldE X Y W H lf ≠ 0 then fieldE X Y W H lf else wayE (outP X Y W H) l)]) ∧ Ext w w' := by
  have HO := fun (w' : World) (h : Ext w w') => hidA (onField_any X Y W H A N c lf B q d l w' hn (hV.ext h) hb hq (hP.ext h))
  generalize (if fieldE X Y W H lf ≠ 0 then fieldE X Y W H lf else wayE (outP X Y W H) l) = E at *
  have hne : (E != 0) = true := by simpa using hE
  clear hn hV hb hq hP hE
  go_enter Try.func48, Try.ntmps48
  go_upto_region 1 with fail
  have kF : Bk (w.alloc (.cells #[.int .i64 X, .int .i64 Y, .int .i64 W, .int .i64 H, .slice A N c] 26)) w.heap.size 26 #[.int .i64 X, .int .i64 Y, .int .i64 W, .int .i64 H, .slice A N c] := Bk.new' rfl
  have hx0 := (Ext.refl w).alloc (.cells #[.int .i64 X, .int .i64 Y, .int .i64 W, .int .i64 H, .slice A N c] 26)
  generalize w.alloc (.cells #[.int .i64 X, .int .i64 Y, .int .i64 W, .int .i64 H, .slice A N c] 26) = w0 at *
  generalize w.heap.size = hf at *
  have f0 := kF.cell 0
  have f1 := kF.cell 1
  have f2 := kF.cell 2
  have f3 := kF.cell 3
  have f4 := kF.cell 4
  go_wp2_with (go_at_call 84; refine ((HO _ hx0).out).mono ?_; rintro e w1 ⟨rfl, hx1⟩)
  go_ret2
  exact ⟨rfl, hx0.trans hx1⟩
set_option maxRecDepth 100000 in
set_option maxHeartbeats 6400000 in
theorem Grades_ok (X Y : Int) (Wn Hn : Nat) (A : Option Addr) (N c : Nat) (lf : List Nat) (B : Option Addr) (n d : Nat) (l : List (Int × Int)) (w : World) (hr : Reg X Y Wn Hn) (hN : N = Wn * Hn) (hlf : lf.length = N) (hh : ∀ j, j < N → Bd 20 (lf.getD j 0)) (hV : Rd w A (flt lf)) (hn : l.length = n) (hP : Rd w B (ptv l)) (hnd : n ≤ d) (h0 : fieldE X Y Wn Hn lf = 0) (hW : wayE (outP X Y Wn Hn) l = 0) :
    Calls Try.prog 48 #[.agg #[.int .i64 X, .int .i64 Y, .int .i64 (Wn : Int), .int .i64 (Hn : Int), .slice A N c], .slice B n d] w fun e w' => ∃ (v : Value) (ev : Int), e = .returned (.tuple #[v, .int .i64 ev]) ∧ Ext w w' ∧ ev = numE (grL lf X Y Wn l (n - 1)) ∧ (ev ≠ 0 → v = .slice none 0 0) ∧ (ev = 0 → ∃ A2 cap, v = .slice A2 (n - 1) cap ∧ Rd w' A2 (flt (grL lf X Y Wn l (n - 1)))) := by
  have hok := wayOk hW
  have hn6 : n ≤ 65536 := by have := hok.le; omega
  have hn1 : 1 ≤ n := by have := hok.pos; omega
  have hb : N ≤ 140737488351232 := by have := hr.n; omega
  have HO := fun (w' : World) (h : Ext w w') => hidA (onField_any X Y Wn Hn A N c lf B n d l w' hlf (hV.ext h) hb hn (hP.ext h))
  rw [h0, hW] at HO
  simp only [ne_eq, not_true_eq_false, if_false] at HO
  have HH := fun (w' : World) (h : Ext w w') => hidA (heights_ok X Y Wn Hn A N c lf B n d l w' hr hN hlf (hV.ext h) hn (hP.ext h) hok)
  have HLn := fun (w' : World) (h : Ext w w') => hidA (lengths_any (fun p hp => outP_bd hr hp) B n d l w' hn (hP.ext h) hnd hok)
  have Hbd := hidA (fun (i : Nat) (h : i < n) => show Bd 20 (hgtY lf X Y Wn l i) from hh _ (by rw [hN]; exact (kOf_in (outP_in (hok.ok i (by omega)))).1))
  have Hst := hidA (fun (i : Nat) (h : i + 1 < n) => hok.st (i + 1) (by omega) (by omega))
  have Hfin := hidA (show ∀ i, i ≤ n - 1 → ∀ x, x ∈ grL lf X Y Wn l i → finB x = true from fun i => by
    induction i with
    | zero => intro _ x hx; cases hx
    | succ i ih =>
      intro hi x hx
      rw [grL] at hx
      rcases List.mem_append.1 hx with h1 | h1
      · exact ih (by omega) x h1
      · rw [List.mem_singleton.1 h1]
        obtain ⟨_, _, m1, m2⟩ := hok.st (i + 1) (by omega) (by omega)
        obtain ⟨l1, _, l3⟩ := len_ok (d := (lpo l (i + 1)).1) m1 m2
        exact bd_finB (gr_ok (hh _ (by rw [hN]; exact (kOf_in (outP_in (hok.ok i (by omega)))).1)) (hh _ (by rw [hN]; exact (kOf_in (outP_in (hok.ok (i + 1) (by omega)))).1)) l1 l3).2.2.2.1 (by omega))
  obtain ⟨ti, hi0, hz0, hz1, hz2⟩ := info_parts infoFlo
  clear hr hN hlf hh hV hn hP hnd h0 hW hok hb
  go_enter Try.func48, Try.ntmps48
  go_upto_region 1 with fail
  have kF : Bk (w.alloc (.cells #[.int .i64 X, .int .i64 Y, .int .i64 (Wn : Int), .int .i64 (Hn : Int), .slice A N c] 26)) w.heap.size 26 #[.int .i64 X, .int .i64 Y, .int .i64 (Wn : Int), .int .i64 (Hn : Int), .slice A N c] := Bk.new' rfl
  have hx0 := (Ext.refl w).alloc (.cells #[.int .i64 X, .int .i64 Y, .int .i64 (Wn : Int), .int .i64 (Hn : Int), .slice A N c] 26)
  generalize w.alloc (.cells #[.int .i64 X, .int .i64 Y, .int .i64 (Wn : Int), .int .i64 (Hn : Int), .slice A N c] 26) = w0 at *
  generalize w.heap.size = hf at *
  have f0 := kF.cell 0
  have f1 := kF.cell 1
  have f2 := kF.cell 2
  have f3 := kF.cell 3
  have f4 := kF.cell 4
  go_upto_region 4 with (go_at_call 84; refine ((HO _ hx0).out).mono ?_; rintro e w1 ⟨rfl, hx1⟩)
  have hxa := hx0.trans hx1
  have kF1 := kF.ext hx1
  clear f0 f1 f2 f3 f4 kF HO hx0 hx1
  have f0 := kF1.cell 0
  have f1 := kF1.cell 1
  have f2 := kF1.cell 2
  have f3 := kF1.cell 3
  have f4 := kF1.cell 4
  go_upto_region 5 with (go_at_call 85; refine ((HH _ hxa).out).mono ?_; rintro e w2 ⟨g, rfl, _, kG, hx2⟩)
  have hxb := hxa.trans hx2
  clear f0 f1 f2 f3 f4 kF1 HH hxa hx2
  go_upto_region 7 with (go_at_call 86; refine ((HLn _ hxb).out).mono ?_; rintro e w5 ⟨vl, rfl, hOl, hx5⟩; obtain ⟨AL, capL, rfl, hRl⟩ := hOl.any; rw [lnL_length])
  have kG5 := kG.ext hx5
  have hxc := hxb.trans hx5
  have HRl := hidA hRl
  clear kG HLn hxb hx5 hOl hRl
  go_loopw [8, 23] (fun s8 s23 wr => ∃ i : Nat, i ≤ n - 1 ∧ s23 = .int .i64 i ∧ OwnFl wr w5.heap.size s8 (grL lf X Y Wn l i) ∧ Ext w5 wr) (fun _ s23 _ => n - (intOf s23).toNat)
  case atStart => exact ⟨0, Nat.zero_le _, rfl, World.ownsRow_nil _ _ _ _, Ext.refl _⟩
  case round =>
    obtain ⟨i, hi, rfl, hO, hx⟩ := hrel
    by_cases hin : i < n - 1
    · have Hin := hidA hin
      obtain ⟨adL, rfl, _, hcv⟩ := (HRl.out.ext hx).at (k := i) (by simp [flt, lnL_length]; omega)
      have v1 := hcv i _ (flt_get (l := lnL l (n - 1)) (by rw [lnL_length]; omega))
      have hge := lnL_get l (n - 1) i hin
      have hst := Hst.out i (by omega)
      obtain ⟨_, hd8, m1, m2⟩ := hst
      have hln := len_ok (d := (lpo l (i + 1)).1) m1 m2
      have Hnx := hidA (show grL lf X Y Wn l (i + 1) = grL lf X Y Wn l i ++ [grF (hgtY lf X Y Wn l i) (hgtY lf X Y Wn l (i + 1)) (lenR (lpo l (i + 1)).1 (lpo l (i + 1)).2)] from rfl)
      have hev : (lnL l (n - 1))[i]'(by rw [lnL_length]; omega) = lenR (lpo l (i + 1)).1 (lpo l (i + 1)).2 := by
        rw [← hge]
        simp [List.getD_eq_getElem?_getD, show i < (lnL l (n - 1)).length by rw [lnL_length]; omega]
      rw [hev] at v1
      have HG1 := fun (w : World) => hidA (grade_any (hgtY lf X Y Wn l i) (hgtY lf X Y Wn l (i + 1)) (lenR (lpo l (i + 1)).1 (lpo l (i + 1)).2) w (Hbd.out i (by omega)) (Hbd.out (i + 1) (by omega)) hln.1 hln.2.2)
      have c0 : ∀ w', Ext w5 w' → w'.cell? ⟨g, i, none⟩ = some (.float .f32 (hgtY lf X Y Wn l i)) := fun w' h => by rw [(kG5.ext h).cell]; exact flo_get _ (by omega)
      have c1 : ∀ w', Ext w5 w' → w'.cell? ⟨g, i + 1, none⟩ = some (.float .f32 (hgtY lf X Y Wn l (i + 1))) := fun w' h => by rw [(kG5.ext h).cell]; exact flo_get _ (by omega)
      generalize hgtY lf X Y Wn l i = h1 at *
      generalize hgtY lf X Y Wn l (i + 1) = h2 at *
      generalize lenR (lpo l (i + 1)).1 (lpo l (i + 1)).2 = ln at *
      obtain ⟨x, hxx⟩ : ∃ x, x = grF h1 h2 ln := ⟨_, rfl⟩
      rw [← hxx] at HG1 Hnx
      have Hlen := hidA (show (grL lf X Y Wn l i).length ≤ 65536 from by rw [grL_length]; omega)
      have i0 : (0 : Int) ≤ i := by omega
      have i1 : (i : Int) < ((n - 1 : Nat) : Int) := by omega
      have i2 : (i : Int) < n := by omega
      have i3 : (0 : Int) ≤ (i : Int) + 1 := by omega
      have i4 : (i : Int) + 1 < n := by omega
      have iw : IntKind.i64.wrap ((i : Int) + 1) = (i : Int) + 1 := IntWalk.i64_in _ ⟨by omega, by omega⟩
      have hxe : Ext wr (wr.drew.alloc (.cells #[.float .f32 x] 27)) := ((Ext.refl wr).drew).alloc _
      have hxa := hidA (hx.trans hxe)
      have hown2 := hidA (hO.ext hxe)
      have hnews : Hid (∀ j u, ([.float .f32 x] : List Value)[j]? = some u → (wr.drew.alloc (.cells #[.float .f32 x] 27)).cell? ((⟨wr.heap.size, 0, none⟩ : Addr).add j) = some u) := World.news_of_block (cs := #[.float .f32 x]) (t := 27) (fr := (0, 0)) (heap_alloc_new wr.drew _)
      have hone : Hid (∀ u ∈ ([.float .f32 x] : List Value), u.oneCell' = true) := by intro u hu; simp at hu; subst hu; rfl
      have hs9 := hidA (show w5.heap.size ≤ (wr.drew.alloc (.cells #[.float .f32 x] 27)).heap.size from hxa.out.size)
      have hsz1 := hidA (show (wr.drew.alloc (.cells #[.float .f32 x] 27)).heap.size = wr.heap.size + 1 from by rw [World.size_alloc]; rfl)
      have hmx2 := hidA (maxY Hlen.out).1
      have hmb := hidA (maxY Hlen.out).2
      clear hxx hcv hge hev hln hd8 m1 m2 hin hi hO hxe
      go_upto_region 9 with fail
      clear v1
      refine wp_region_noPanic ?_
      refine wp_region_held_drew (S := fun w' => Ext w5 w') (by kernel_rfl) ?_ (fun hHeld => ?_)
      · (first | exact hx9 | (repeat (first | exact Ext.refl _ | assumption | refine Ext.setCell ?_ (by first | (simp; done) | (simp; omega)) _ | refine Ext.drewN ?_ _ | refine Ext.alloc ?_ _ | refine Ext.drew ?_ | refine Ext.trans ?_ (by assumption))))
      refine wpAnyH_take (i := 0) (oi := ?o1x0) (v := ?v1x0) ?hi1x0 (by kernel_rfl) ?hf1x0 ?hr1x0 (fun _ _ _ h => h) ?hy1x0 (by assumption) ?rest1x0
      case hi1x0 => (simp only [List.getElem?_toArray, List.getElem?_cons_zero]; exact rfl)
      case hf1x0 => kernel_rfl
      case hr1x0 => kernel_rfl
      case hy1x0 => (refine Or.inl ⟨by rfl, ?_⟩; intro w hSw; (try dsimp only at hSw); go_simp; try with_reducible rfl)
      simp only [put_mk, List.set_cons_succ, List.set_cons_zero]
      refine wpAnyH_take (i := 1) (oi := ?o1x1) (v := ?v1x1) ?hi1x1 (by kernel_rfl) ?hf1x1 ?hr1x1 (fun _ _ _ h => h) ?hy1x1 (by assumption) ?rest1x1
      case hi1x1 => (simp only [List.getElem?_toArray, List.getElem?_cons_succ, List.getElem?_cons_zero]; exact rfl)
      case hf1x1 => kernel_rfl
      case hr1x1 => kernel_rfl
      case hy1x1 => (refine Or.inl ⟨by rfl, ?_⟩; intro w hSw; (try dsimp only at hSw); go_simp; try with_reducible rfl)
      simp only [put_mk, List.set_cons_succ, List.set_cons_zero]
      refine wpAnyH_take (i := 2) (oi := ?o1x2) (v := ?v1x2) ?hi1x2 (by kernel_rfl) ?hf1x2 ?hr1x2 (fun _ _ _ h => h) ?hy1x2 (by assumption) ?rest1x2
      case hi1x2 => (simp only [List.getElem?_toArray, List.getElem?_cons_succ, List.getElem?_cons_zero]; exact rfl)
      case hf1x2 => kernel_rfl
      case hr1x2 => kernel_rfl
      case hy1x2 => (refine Or.inl ⟨by rfl, ?_⟩; intro w hSw; (try dsimp only at hSw); go_simp; try with_reducible rfl)
      simp only [put_mk, List.set_cons_succ, List.set_cons_zero]
      refine wpAnyH_take (i := 3) (oi := ?o1x3) (v := ?v1x3) ?hi1x3 (by kernel_rfl) ?hf1x3 ?hr1x3 (fun _ _ _ h => h) ?hy1x3 (by assumption) ?rest1x3
      case hi1x3 => (simp only [List.getElem?_toArray, List.getElem?_cons_succ, List.getElem?_cons_zero]; exact rfl)
      case hf1x3 => kernel_rfl
      case hr1x3 => kernel_rfl
      case hy1x3 => (refine Or.inl ⟨by rfl, ?_⟩; intro w hSw; (try dsimp only at hSw); go_simp; try with_reducible rfl)
      simp only [put_mk, List.set_cons_succ, List.set_cons_zero]
      refine wpAnyH_take (i := 4) (oi := ?o1x4) (v := ?v1x4) ?hi1x4 (by kernel_rfl) ?hf1x4 ?hr1x4 (fun _ _ _ h => h) ?hy1x4 (by assumption) ?rest1x4
      case hi1x4 => (simp only [List.getElem?_toArray, List.getElem?_cons_succ, List.getElem?_cons_zero]; exact rfl)
      case hf1x4 => kernel_rfl
      case hr1x4 => kernel_rfl
      case hy1x4 => (refine Or.inl ⟨by rfl, ?_⟩; intro w hSw; (try dsimp only at hSw); go_simp; try with_reducible rfl)
      simp only [put_mk, List.set_cons_succ, List.set_cons_zero]
      refine wpAnyH_take (i := 5) (oi := ?o1x5) (v := ?v1x5) ?hi1x5 (by kernel_rfl) ?hf1x5 ?hr1x5 (fun _ _ _ h => h) ?hy1x5 (by assumption) ?rest1x5
      case hi1x5 => (simp only [List.getElem?_toArray, List.getElem?_cons_succ, List.getElem?_cons_zero]; exact rfl)
      case hf1x5 => kernel_rfl
      case hr1x5 => kernel_rfl
      case hy1x5 => (refine Or.inl ⟨by rfl, ?_⟩; intro w hSw; (try dsimp only at hSw); go_simp; try with_reducible rfl)
      simp only [put_mk, List.set_cons_succ, List.set_cons_zero]
      refine wpAnyH_take (i := 6) (oi := ?o1x6) (v := ?v1x6) ?hi1x6 (by kernel_rfl) ?hf1x6 ?hr1x6 (fun _ _ _ h => h) ?hy1x6 (by assumption) ?rest1x6
      case hi1x6 => (simp only [List.getElem?_toArray, List.getElem?_cons_succ, List.getElem?_cons_zero]; exact rfl)
      case hf1x6 => kernel_rfl
      case hr1x6 => kernel_rfl
      case hy1x6 => (refine Or.inl ⟨by rfl, ?_⟩; intro w hSw; (try dsimp only at hSw); go_simp; try with_reducible rfl)
      simp only [put_mk, List.set_cons_succ, List.set_cons_zero]
      refine wpAnyH_take (i := 7) (oi := ?o1x7) (v := ?v1x7) ?hi1x7 (by kernel_rfl) ?hf1x7 ?hr1x7 (fun _ _ _ h => h) ?hy1x7 (by assumption) ?rest1x7
      case hi1x7 => (simp only [List.getElem?_toArray, List.getElem?_cons_succ, List.getElem?_cons_zero]; exact rfl)
      case hf1x7 => kernel_rfl
      case hr1x7 => kernel_rfl
      case hy1x7 => (refine Or.inl ⟨by rfl, ?_⟩; intro w hSw; (try dsimp only at hSw); go_simp; try with_reducible rfl)
      simp only [put_mk, List.set_cons_succ, List.set_cons_zero]
      refine wpAnyH_take (i := 8) (oi := ?o1x8) (v := ?v1x8) ?hi1x8 (by kernel_rfl) ?hf1x8 ?hr1x8 (fun _ _ _ h => h) ?hy1x8 (by assumption) ?rest1x8
      case hi1x8 => (simp only [List.getElem?_toArray, List.getElem?_cons_succ, List.getElem?_cons_zero]; exact rfl)
      case hf1x8 => kernel_rfl
      case hr1x8 => kernel_rfl
      case hy1x8 => (refine Or.inl ⟨by rfl, ?_⟩; intro w hSw; (try dsimp only at hSw); go_simp; try with_reducible rfl)
      simp only [put_mk, List.set_cons_succ, List.set_cons_zero]
      refine wpAnyH_take (i := 9) (oi := ?o1x9) (v := ?v1x9) ?hi1x9 (by kernel_rfl) ?hf1x9 ?hr1x9 (fun _ _ _ h => h) ?hy1x9 (by assumption) ?rest1x9
      case hi1x9 => (simp only [List.getElem?_toArray, List.getElem?_cons_succ, List.getElem?_cons_zero]; exact rfl)
      case hf1x9 => kernel_rfl
      case hr1x9 => kernel_rfl
      case hy1x9 => (refine Or.inl ⟨by rfl, ?_⟩; intro w hSw; (try dsimp only at hSw); go_simp; try with_reducible rfl)
      simp only [put_mk, List.set_cons_succ, List.set_cons_zero]
      refine wpAnyH_take (i := 10) (oi := ?o1x10) (v := ?v1x10) ?hi1x10 (by kernel_rfl) ?hf1x10 ?hr1x10 (fun _ _ _ h => h) ?hy1x10 (by assumption) ?rest1x10
      case hi1x10 => (simp only [List.getElem?_toArray, List.getElem?_cons_succ, List.getElem?_cons_zero]; exact rfl)
      case hf1x10 => kernel_rfl
      case hr1x10 => kernel_rfl
      case hy1x10 => (refine Or.inl ⟨by rfl, ?_⟩; intro w hSw; (try dsimp only at hSw); go_simp; try with_reducible rfl)
      simp only [put_mk, List.set_cons_succ, List.set_cons_zero]
      refine wpAnyH_ready (rs := [11]) (by kernel_rfl) (by simp) ?_
      refine AllReadyH.cons (o := ?o1x11) ?hi1x11 (fun K hK => ?_) AllReadyH.nil
      case hi1x11 => (simp only [List.getElem?_toArray, List.getElem?_cons_succ, List.getElem?_cons_zero]; exact rfl)
      go_simp
      go_at_call 90
      refine ((HG1 _).out).mono ?_
      rintro e wl ⟨rfl, hwl⟩
      subst wl
      refine hK.out _ _ ?_ (fun hHeld => ?_)
      · (first | exact hx9 | (repeat (first | exact Ext.refl _ | assumption | refine Ext.setCell ?_ (by first | (simp; done) | (simp; omega)) _ | refine Ext.drewN ?_ _ | refine Ext.alloc ?_ _ | refine Ext.drew ?_ | refine Ext.trans ?_ (by assumption))))
      clear hK K
      refine wpAnyH_ready (rs := [12]) (by kernel_rfl) (by simp) ?_
      refine AllReadyH.cons (o := ?o1x12) ?hi1x12 (fun K hK => ?_) AllReadyH.nil
      case hi1x12 => (simp only [List.getElem?_toArray, List.getElem?_cons_succ, List.getElem?_cons_zero]; exact rfl)
      go_simp
      refine hK.out _ _ ?_ (fun hHeld => ?_)
      · (first | exact hx9 | (repeat (first | exact Ext.refl _ | assumption | refine Ext.setCell ?_ (by first | (simp; done) | (simp; omega)) _ | refine Ext.drewN ?_ _ | refine Ext.alloc ?_ _ | refine Ext.drew ?_ | refine Ext.trans ?_ (by assumption))))
      clear hK K
      refine wpAnyH_ready (rs := [13]) (by kernel_rfl) (by simp) ?_
      refine AllReadyH.cons (o := ?o1x13) ?hi1x13 (fun K hK => ?_) AllReadyH.nil
      case hi1x13 => (simp only [List.getElem?_toArray, List.getElem?_cons_succ, List.getElem?_cons_zero]; exact rfl)
      refine step_append_lies _ (by rfl) (.tmp 28) (.tmp 40) 24 (by rfl) w5.heap.size 27 ti (.float .f32 0) 1 4 Try.underlying24 hi0 hz0 hz1 hz2 (by rfl) (by decide) _ _ _ (by rfl) hown2.out ⟨wr.heap.size, 0, none⟩ 1 1 [.float .f32 x] (by rfl) (by rfl) hnews.out hone.out (by omega) hmx2.out hmb.out hs9.out (wr.heap.size + 1) hsz1.out ?_
      intro gg cap9 w9 hown9 hgrow9 hat hlt
      have hx9 : Ext w5 w9 := hxa.out.grown hgrow9 (fun b hb => (World.ownsRow.lt hown2.out b hb).1)
      refine hK.out _ _ ?_ (fun hHeld => ?_)
      · (first | exact hx9 | (repeat (first | exact Ext.refl _ | assumption | refine Ext.setCell ?_ (by first | (simp; done) | (simp; omega)) _ | refine Ext.drewN ?_ _ | refine Ext.alloc ?_ _ | refine Ext.drew ?_ | refine Ext.trans ?_ (by assumption))))
      clear hK K
      simp only [put_mk, List.set_cons_succ, List.set_cons_zero]
      refine wpAnyH_take (i := 14) (oi := ?o1x14) (v := ?v1x14) ?hi1x14 (by kernel_rfl) ?hf1x14 ?hr1x14 (fun _ _ _ h => h) ?hy1x14 (by assumption) ?rest1x14
      case hi1x14 => (simp only [List.getElem?_toArray, List.getElem?_cons_succ, List.getElem?_cons_zero]; exact rfl)
      case hf1x14 => kernel_rfl
      case hr1x14 => kernel_rfl
      case hy1x14 => (refine Or.inl ⟨by rfl, ?_⟩; intro w hSw; (try dsimp only at hSw); go_simp; try with_reducible rfl)
      simp only [put_mk, List.set_cons_succ, List.set_cons_zero]
      refine wpAnyH_done (by kernel_rfl) ?_ _
      refine NoPanic.normal ?_
      have HO9 := hidA (show OwnFl w9 w5.heap.size (.slice (some ⟨gg, 0, none⟩) ((grL lf X Y Wn l i).length + 1) cap9) (grL lf X Y Wn l (i + 1)) from by
        rw [Hnx.out]
        exact OwnFl.push hown9)
      have Hx9 := hidA hx9
      clear Hnx Hlen hxa hown2 hnews hone hs9 hsz1 hmx2 hmb hown9 hgrow9 hat hlt hx9 hHeld HG1 c0 c1 hx iw
      go_wp2
      go_roundw
      case rel => exact ⟨i + 1, Hin.out, (by first | rfl | go_num), HO9.out, Hx9.out⟩
      case measure => exact nxt_y Hin.out
    · obtain rfl : i = n - 1 := by omega
      obtain ⟨A2, cap2, rfl, hR2⟩ := hO.any
      have HVq := hidA (values_any A2 (n - 1) cap2 (grL lf X Y Wn l (n - 1)) wr (grL_length lf X Y Wn l (n - 1)) hR2 (by omega) (Hfin.out (n - 1) (Nat.le_refl _)))
      have HR2 := hidA hR2
      have Hend := hidA (hxc.trans hx)
      rw [grL_length]
      clear hO hR2 hx hi hin
      generalize hVe : (if numE (grL lf X Y Wn l (n - 1)) = 0 then Value.slice A2 (n - 1) cap2 else Value.slice none 0 0) = V at *
      have HVe := hidA hVe
      clear hVe
      generalize hEe : numE (grL lf X Y Wn l (n - 1)) = E at *
      have HEe := hidA hEe
      clear hEe
      go_wp2_with (go_at_call 87; refine (HVq.out).mono ?_; rintro e w9 ⟨rfl, hw9⟩; subst w9)
      go_ret2
      exact ⟨V, E, rfl, Hend.out, HEe.out.symm, fun h => by rw [← HVe.out, if_neg h], fun h => ⟨A2, cap2, by rw [← HVe.out, if_pos h], HR2.out⟩⟩
end Go.Proofs.Ytpgdinpckolfpaa
