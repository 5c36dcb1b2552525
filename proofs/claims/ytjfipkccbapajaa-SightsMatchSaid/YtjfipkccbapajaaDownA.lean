/- Contracts: level.even, level.down, level.Down. -/
import Derived.Test.YtjfipkccbapajaaMake
import Derived.Test.YtjfipkccbapajaaWordsB
namespace Go.Proofs.Ytjfipkccbapajaa
open Go.RowKit

def fAdd (a b : Nat) : Option Nat := floatBits .add .f32 a b
def fMul (a b : Nat) : Option Nat := floatBits .mul .f32 a b

/-- what Down makes of four cells -/
def quarter (a b c d : Nat) : Option Nat := (fAdd a b).bind fun s => (fAdd c d).bind fun t => (fAdd s t).bind fun u => fMul u 1048576000

theorem quarter_some {a b c d g : Nat} (h : quarter a b c d = some g) : ∃ s t u, floatBits .add .f32 a b = some s ∧ floatBits .add .f32 c d = some t ∧ floatBits .add .f32 s t = some u ∧ floatBits .mul .f32 u 1048576000 = some g := by
  unfold quarter at h
  obtain ⟨s, h1, h⟩ := Option.bind_eq_some_iff.1 h
  obtain ⟨t, h2, h⟩ := Option.bind_eq_some_iff.1 h
  obtain ⟨u, h3, h⟩ := Option.bind_eq_some_iff.1 h
  exact ⟨s, t, u, h1, h2, h3, h⟩

set_option maxHeartbeats 800000 in
theorem down1_any (x y X Y : Int) (W H : Int) (r n c : Nat) (A : Option Addr) (l : List Nat) (w : World) (k Wn : Nat) (g : Nat)
    (hF : Bk w r 48 #[.int .i64 X, .int .i64 Y, .int .i64 W, .int .i64 H, .slice A n c]) (hr : Rd w A (flt l)) (hn : l.length = n) (hn2 : n ≤ 65536)
    (hW : W = Wn) (hW1 : 1 ≤ Wn) (hW2 : Wn ≤ 512) (hy : -8388608 ≤ y ∧ y ≤ 8388608) (hx : -8388608 ≤ x ∧ x ≤ 8388608) (hX : -4194304 ≤ X ∧ X ≤ 4194304)
    (hy2 : 0 ≤ 2 * y - Y ∧ 2 * y - Y ≤ 512)
    (hk : (2 * y - Y) * W + 2 * x - X = k) (hb : k + Wn + 1 < n) {f0 f1 f2 f3 : Nat} (h0 : l[k]? = some f0) (h1 : l[k + 1]? = some f1) (h2 : l[k + Wn]? = some f2) (h3 : l[k + Wn + 1]? = some f3) (hq : quarter f0 f1 f2 f3 = some g) :
    Calls Try.prog 151 #[.int .i64 x, .int .i64 y, .pointer (some ⟨r, 0, none⟩)] w fun e w' => e = .returned (.float .f32 g) ∧ ∃ m, w' = w.drewN m := by
  obtain ⟨s, t, u, q1, q2, q3, q4⟩ := quarter_some hq
  obtain ⟨p1, p2⟩ := prod_bd (A := 512) (B := 512) hy2.1 hy2.2 (by omega : 0 ≤ W) (by omega)
  have k0 : w.cell? ⟨r, 0, none⟩ = some (.int .i64 X) := hF.cell 0
  have k1 : w.cell? ⟨r, 1, none⟩ = some (.int .i64 Y) := hF.cell 1
  have k2 : w.cell? ⟨r, 2, none⟩ = some (.int .i64 W) := hF.cell 2
  have k4 : w.cell? ⟨r, 4, none⟩ = some (.slice A n c) := hF.cell 4
  obtain ⟨ad, rfl, hbk, hc⟩ := hr.at (k := 0) (by simp; omega)
  have e0 := hc k (.float .f32 f0) (by simp [flt, h0])
  have e1 := hc (k + 1) (.float .f32 f1) (by simp [flt, h1])
  have e2 := hc (k + Wn) (.float .f32 f2) (by simp [flt, h2])
  have e3 := hc (k + Wn + 1) (.float .f32 f3) (by simp [flt, h3])
  have e1' := e1
  have e2' := e2
  have e3' := e3
  rw [add_pos _ (by omega)] at e1' e2' e3'
  clear hc hr hF
  have q1 := fun (w : World) => run_float_arith (P := Try.prog) w .add 71 .f32 f0 f1 s q1
  have q2 := fun (w : World) => run_float_arith (P := Try.prog) w .add 71 .f32 f2 f3 t q2
  have q3 := fun (w : World) => run_float_arith (P := Try.prog) w .add 71 .f32 s t u q3
  have q4 := fun (w : World) => run_float_arith (P := Try.prog) w .mul 71 .f32 u 1048576000 g q4
  have z1 : IntKind.i64.wrap (k + 1 : Int) = k + 1 := IntWalk.i64_in _ (by omega)
  have z2 : IntKind.i64.wrap (k + Wn : Int) = k + Wn := IntWalk.i64_in _ (by omega)
  have z3 : IntKind.i64.wrap (k + Wn + 1 : Int) = k + Wn + 1 := IntWalk.i64_in _ (by omega)
  have b0 : (k : Int) < n := by omega
  have b1 : (k + 1 : Int) < n := by omega
  have b2 : (k + Wn : Int) < n := by omega
  have b3 : (k + Wn + 1 : Int) < n := by omega
  have n0 : (0 : Int) ≤ k := by omega
  have n1 : (0 : Int) ≤ (k : Int) + 1 := by omega
  have n2 : (0 : Int) ≤ (k : Int) + Wn := by omega
  have n3 : (0 : Int) ≤ (k : Int) + Wn + 1 := by omega
  have t1 : ((k : Int) + 1).toNat = k + 1 := by omega
  have t2 : ((k : Int) + Wn).toNat = k + Wn := by omega
  have t3 : ((k : Int) + Wn + 1).toNat = k + Wn + 1 := by omega
  subst hW
  have Hn := hidA hn
  have Hk := hidA hk
  clear hn
  go_enter Try.func151, Try.ntmps151
  go_wp2_with fail
  go_quiet (fail)
  go_wp2
  go_ret
  exact ⟨rfl, _, rfl⟩

def evB (x y w h : Int) : Bool := decide (x.tmod 2 = 0 ∧ y.tmod 2 = 0 ∧ w.tmod 2 = 0 ∧ h.tmod 2 = 0)
theorem tmod2 (x : Int) : x.tmod 2 = 0 ↔ x % 2 = 0 := ⟨fun h => Int.emod_eq_zero_of_dvd (Int.dvd_of_tmod_eq_zero h), fun h => Int.tmod_eq_zero_of_dvd (Int.dvd_of_emod_eq_zero h)⟩
theorem evB_iff (x y w h : Int) : evB x y w h = true ↔ x % 2 = 0 ∧ y % 2 = 0 ∧ w % 2 = 0 ∧ h % 2 = 0 := by simp [evB, tmod2]

set_option maxHeartbeats 800000 in
theorem even_any (x y ww hh : Int) (w : World) :
    Calls Try.prog 96 #[.agg #[.int .i64 x, .int .i64 y, .int .i64 ww, .int .i64 hh]] w fun e w' => e = .returned (.bool (evB x y ww hh)) ∧ Ext w w' := by
  go_enter Try.func96, Try.ntmps96
  go_wp2
  all_goals go_ret
  all_goals exact ⟨ret_b (by first | (simp [evB, *]; done) | (simp [evB, *]; rfl)), (Ext.refl _).alloc _⟩

theorem tdiv2 (x : Int) : (2 * x).tdiv 2 = x := by rw [Int.mul_comm]; exact Int.mul_tdiv_cancel x (by decide)

set_option maxHeartbeats 1600000 in
theorem down_any (X Y : Int) (W H n c : Nat) (A : Option Addr) (l : List Nat) (w : World) (hr : Rd w A (flt l)) (hn : l.length = n) (hn1 : n = 2 * H * (2 * W)) (hn2 : n ≤ 65536)
    (hW : 1 ≤ W ∧ W ≤ 256) (hH : 1 ≤ H ∧ H ≤ 256) (hX : -2097152 ≤ X ∧ X + W ≤ 2097152) (hY : -2097152 ≤ Y ∧ Y + H ≤ 2097152) (g : Nat → Nat)
    (hq : ∀ j i, j < H → i < W → quarter (l.getD (2 * j * (2 * W) + 2 * i) 0) (l.getD (2 * j * (2 * W) + 2 * i + 1) 0) (l.getD (2 * j * (2 * W) + 2 * i + 2 * W) 0) (l.getD (2 * j * (2 * W) + 2 * i + 2 * W + 1) 0) = some (g (j * W + i))) :
    Calls Try.prog 98 #[.agg #[.int .i64 (2 * X), .int .i64 (2 * Y), .int .i64 (2 * W : Int), .int .i64 (2 * H : Int), .slice A n c]] w fun e w' =>
      ∃ A' c', e = .returned (.agg #[.int .i64 X, .int .i64 Y, .int .i64 W, .int .i64 H, .slice A' (H * W) c']) ∧ Rdb (w.heap.size + 2) w' A' (flt ((List.range (H * W)).map g)) ∧ Ext w w' := by
  have t1 := tdiv2 X
  have t2 := tdiv2 Y
  have t3 := tdiv2 W
  have t4 := tdiv2 H
  have Hq := hidA hq
  have Hn := hidA hn
  have Hn1 := hidA hn1
  clear hq hn hn1
  go_enter Try.func98, Try.ntmps98
  go_wp2_with fail
  generalize hwd : World.alloc (World.alloc (World.alloc w _) _) _ = wd
  have hx : Ext w wd := by subst hwd; exact (((Ext.refl _).alloc _).alloc _).alloc _
  have hbk : Bk wd w.heap.size 48 #[.int .i64 (2 * X), .int .i64 (2 * Y), .int .i64 (2 * W), .int .i64 (2 * H), .slice A n c] := by subst hwd; exact ((Bk.new' rfl).alloc _).alloc _
  have hr2 : Bk wd (w.heap.size + 1) 48 #[.int .i64 0, .int .i64 0, .int .i64 0, .int .i64 0, .slice none 0 0] := by subst hwd; exact (Bk.new' (by simp)).alloc _
  clear hwd
  refine (make_any X Y W H (by omega) (by omega) (by omega) (by omega) (by omega) (by omega) 151 Try.call151 #[.pointer (some ⟨w.heap.size, 0, none⟩)] g wd w.heap.size hbk.lt (fun _ o => o = some (.cells #[.int .i64 (2 * X), .int .i64 (2 * Y), .int .i64 (2 * W), .int .i64 (2 * H), .slice A n c] 48 (0, 0))) hbk ?_).mono ?_
  · intro j i w' hj hi hg hI
    have hl : 2 * j * (2 * W) + 2 * (2 * W) ≤ n := by
      rw [Hn1.out, ← Nat.add_mul]
      exact Nat.mul_le_mul_right _ (by omega)
    have hll : l.length = n := Hn.out
    have hg4 : ∀ k, k < n → l[k]? = some (l.getD k 0) := fun k hk => by simp [List.getD, show k < l.length by omega]
    refine (down1_any (X + i) (Y + j) (2 * X) (2 * Y) (2 * W) (2 * H) w.heap.size n c A l w' (2 * j * (2 * W) + 2 * i) (2 * W) (g (j * W + i)) hI (hr.grown hx hg (Nat.le_refl _)) hll hn2 (by simp) (by omega) (by omega) (by omega) (by omega) (by omega) (by omega) ?_ (by omega) (hg4 _ (by omega)) (hg4 _ (by omega)) (hg4 _ (by omega)) (hg4 _ (by omega)) (Hq.out j i hj hi)).mono ?_
    · rw [show 2 * (Y + (j : Int)) - 2 * Y = 2 * j from by omega]
      simp only [Int.natCast_add, Int.natCast_mul, Int.cast_ofNat_Int]
      have : 2 * (X + (i : Int)) = 2 * X + 2 * i := by omega
      omega
    · rintro e w'' ⟨he, m, rfl⟩
      exact ⟨he, grown_of_drewN m _, hI⟩
  · rintro e w1 ⟨A', c', rfl, hown, hg, hI⟩
    have hb1 : Bk w1 w.heap.size 48 _ := hI
    have hr1 := hr2.grown hg (by simp)
    have e0 : w1.cell? ⟨w.heap.size + 1, 0, none⟩ = some (.int .i64 0) := hr1.cell 0
    have e1 : w1.cell? ⟨w.heap.size + 1, 1, none⟩ = some (.int .i64 0) := hr1.cell 1
    have e2 : w1.cell? ⟨w.heap.size + 1, 2, none⟩ = some (.int .i64 0) := hr1.cell 2
    have e3 : w1.cell? ⟨w.heap.size + 1, 3, none⟩ = some (.int .i64 0) := hr1.cell 3
    have e4 : w1.cell? ⟨w.heap.size + 1, 4, none⟩ = some (.slice none 0 0) := hr1.cell 4
    have k0 : w1.frozen? ⟨w.heap.size + 1, 0, none⟩ = false := hr1.frozen 0
    have k1 : w1.frozen? ⟨w.heap.size + 1, 1, none⟩ = false := hr1.frozen 1
    have k2 : w1.frozen? ⟨w.heap.size + 1, 2, none⟩ = false := hr1.frozen 2
    have k3 : w1.frozen? ⟨w.heap.size + 1, 3, none⟩ = false := hr1.frozen 3
    have k4 : w1.frozen? ⟨w.heap.size + 1, 4, none⟩ = false := hr1.frozen 4
    go_wp2
    refine bodyPost_ret (v := .agg #[.int .i64 X, .int .i64 Y, .int .i64 W, .int .i64 H, .slice A' (H * W) c']) (by simp [results, Try.results98, go_sem, e0, e1, e2, e3, e4]) rfl ⟨A', c', rfl, ?_, ?_⟩
    · have hne := own_ne hown hr1 (by decide)
      exact (Rdb.of_own (mk_end (mk_end (mk_end (mk_end (mk_end hown hne) hne) hne) hne) hne)).mono (by have := hx.size; have := hr2.lt; omega)
    · exact (((((ext_of_grown hx hg (Nat.le_refl _)).setCell (by simp) _).setCell (by simp) _).setCell (by simp) _).setCell (by simp) _).setCell (by simp) _

end Go.Proofs.Ytjfipkccbapajaa
