/- The law TopWays: it returns true for every field, rules and places. -/
import Derived.Test.YtbjomkidjccdoaaTwAC
namespace Go.Proofs.Ytbjomkidjccdoaa
open Go.RowKit
attribute [local go_sem ↓] Go.wp_at_zero Go.wp_at_succ
attribute [local go_sem] run_store_float

theorem ne_of_beq {a b : Option Ordering} (h : (a == b) = false) : ¬ a = b := fun e => by subst e; simp at h
theorem nx_tw {k n : Nat} (h : k < n) (hn : n ≤ 65536) : n - (intOf (.int .i64 (wrap64 ((k : Int) + 1)))).toNat < n - (intOf (.int .i64 (k : Int))).toNat := by
  rw [IntWalk.wrap64_in _ ⟨by omega, by omega⟩]
  simp [intOf]
  omega
theorem nxt_tw {k n : Nat} (h : k < n) : n - (intOf (.int .i64 (((k + 1 : Nat) : Int)))).toNat < n - (intOf (.int .i64 (k : Int))).toNat := by
  simp [intOf]
  omega
theorem Rd.ptake {w : World} {A : Option Addr} {ps : List (Int × Int)} (m : Nat) (h : Rd w A (ptv ps)) : Rd w A (ptv (ps.take m)) := by
  intro hne
  have e : ptv ps = ptv (ps.take m) ++ ptv (ps.drop m) := by rw [← ptv_append, List.take_append_drop]
  obtain ⟨a, ha, hb, hc⟩ := h (by rw [e]; intro h0; exact hne (List.append_eq_nil_iff.1 h0).1)
  refine ⟨a, ha, hb, fun j u hu => hc j u ?_⟩
  rw [e, List.getElem?_append_left (List.getElem?_eq_some_iff.1 hu).1]
  exact hu
theorem Rd.pdrop {w : World} {ad : Addr} {ps : List (Int × Int)} (h : Rd w (some ad) (ptv ps)) : Rd w (some (ad.add 2)) (ptv (ps.drop 1)) := by
  cases ps with
  | nil => exact Rd.nil _ _
  | cons p r =>
    intro hne
    obtain ⟨a, e, hb, hc⟩ := h (by rw [ptv_cons]; simp)
    injection e with e
    subst e
    refine ⟨_, rfl, by rw [add_block]; exact hb, fun j u hu => ?_⟩
    rw [add_add']
    exact hc _ _ (by rw [ptv_cons, Nat.add_comm 2 j]; simpa using hu)
theorem Rd.newsT {w : World} {ad : Addr} {xs : List Value} (h : Rd w (some ad) xs) : ∀ j u, xs[j]? = some u → w.cell? (ad.add j) = some u := fun j u hu => by
  obtain ⟨a, e, _, hc⟩ := h (by rintro rfl; simp at hu)
  injection e with e
  subst e
  exact hc j u hu
theorem Own.ext2 {w w' : World} {base n : Nat} {v : Value} {xs : List Value} (h : w.ownsRow base 32 2 v n xs) (hx : Ext w w') : w'.ownsRow base 32 2 v n xs := World.ownsRow.kept h (grown_ext hx none) (by cases h : v.ownBlock <;> simp)
theorem Own.low2 {w : World} {a b n : Nat} {v : Value} {xs : List Value} (h : w.ownsRow b 32 2 v n xs) (hab : a ≤ b) : w.ownsRow a 32 2 v n xs := by
  refine ⟨h.1, ?_⟩
  rcases h.2 with h1 | ⟨g, cap, cur, hv, hb, hr⟩
  · exact .inl h1
  · exact .inr ⟨g, cap, cur, hv, Nat.le_trans hab hb, hr⟩
/-- what Way answers: 0 and a way, or an error -/
def WayU (R : RlR) (V : Nat → Nat) (X Y : Int) (Wn Hn N src tq : Nat) (v : Value) (pv : Nat) (ev : Int) (w : World) : Prop := (∃ A n c, v = .slice A n c) ∧ (ev ≠ 0 ∨ ev = 0 ∧ ∃ (sn : Nat → Bool) (P : Nat → Nat) (ps : List (Int × Int)) (B : Option Addr) (cap : Nat), WayG R V X Y Wn Hn N src tq v pv w sn P ps B cap)
theorem Way_u (X Y : Int) (Wn Hn : Nat) (A : Option Addr) (N c : Nat) (R : RlR) (C : Option Addr) (m cc : Nat) (lf : List Nat) (X' Y' W' H' : Int) (l : List Nat) (ax ay dx dy : Int) (w : World)
    (hr : Reg X Y Wn Hn) (hN : N = Wn * Hn) (hR : RlOk R N) (hn : lf.length = N) (hh : ∀ j, j < N → Bd 20 (lf.getD j 0)) (hV : Rd w A (flt lf)) (hCo : CoR w C m R.co) (hC : CoP w C m X' Y' W' H' l) (hm : m ≤ 140737488351232) (hg : grndE X Y Wn Hn lf R.gr R.wt R.br R.de R.sp m X' Y' W' H' l = 0) :
    Calls Try.prog 5 #[.agg #[.int .i64 X, .int .i64 Y, .int .i64 (Wn : Int), .int .i64 (Hn : Int), .slice A N c], .agg #[.float .f32 R.gr, .float .f32 R.wt, .float .f32 R.br, .float .f32 R.de, .int .i64 (R.sp : Int), .slice C m cc], .agg #[.int .i64 ax, .int .i64 ay], .agg #[.int .i64 dx, .int .i64 dy]] w fun e w' => ∃ (v : Value) (pv : Nat) (ev : Int), e = .returned (.tuple #[v, .float .f32 pv, .int .i64 ev]) ∧ Ext w w' ∧ WayU R (fun j => lf.getD j 0) X Y Wn Hn N (kOf X Y Wn (ax, ay)) (kOf X Y Wn (dx, dy)) v pv ev w' := by
  have hb : N ≤ 140737488351232 := by have := hr.n; omega
  by_cases hin : InR X Y Wn Hn ax ay ∧ InR X Y Wn Hn dx dy
  · obtain ⟨h1, h2, h3⟩ := kOf_in (p := (ax, ay)) hin.1
    obtain ⟨g1, g2, g3⟩ := kOf_in (p := (dx, dy)) hin.2
    have h9 := Way_ok2 X Y Wn Hn A N c R C m cc (kOf X Y Wn (ax, ay)) (kOf X Y Wn (dx, dy)) lf X' Y' W' H' l w hr hN hR hn hh (by omega) hV hCo hC hg (by omega)
    rw [← h2, ← h3, ← g2, ← g3] at h9
    refine h9.mono ?_
    rintro e w'' ⟨sn, P, q1, q2, ⟨q3, rfl⟩ | ⟨q3, H, xs, g, cap, q4, q5, q6, q7, q9, rfl, q8⟩⟩
    · exact ⟨_, _, _, rfl, q2, ⟨_, _, _, rfl⟩, .inl (by decide)⟩
    · exact ⟨_, _, _, rfl, q2, ⟨_, _, _, rfl⟩, .inr ⟨rfl, sn, P, _, some ⟨g, 0, none⟩, cap, WayG.of (edA_ok hR hN hh) hr.w1 hN (by omega) q1 q3 q4 q5 q6 q9 q8⟩⟩
  · have hi : insE X Y Wn Hn [(ax, ay), (dx, dy)] = 5 := by
      unfold insE
      rw [if_neg]
      simpa using hin
    have h9 := Way_out X Y Wn Hn A N c lf R.gr R.wt R.br R.de R.sp C m cc X' Y' W' H' l ax ay dx dy w hr hn hV hb hC hm hg (by rw [hi]; decide)
    refine h9.mono ?_
    rintro e w'' ⟨rfl, h1⟩
    exact ⟨_, _, _, rfl, h1, ⟨_, _, _, rfl⟩, .inl (by rw [hi]; decide)⟩
theorem idx_w {X Y : Int} {Wn Hn t : Nat} (hr : Reg X Y Wn Hn) (ht : t < Wn * Hn) :
    (wrap64 (Y + ((t / Wn : Nat) : Int) - Y) = ((t / Wn : Nat) : Int) ∧ wrap64 (((t / Wn : Nat) : Int) * (Wn : Int)) = ((t / Wn * Wn : Nat) : Int) ∧ wrap64 (((t / Wn * Wn : Nat) : Int) + (X + ((t % Wn : Nat) : Int))) = X + (t : Int) ∧ wrap64 (X + (t : Int) - X) = (t : Int)) ∧
    (IntKind.i64.wrap (Y + ((t / Wn : Nat) : Int) - Y) = ((t / Wn : Nat) : Int) ∧ IntKind.i64.wrap (((t / Wn : Nat) : Int) * (Wn : Int)) = ((t / Wn * Wn : Nat) : Int) ∧ IntKind.i64.wrap (((t / Wn * Wn : Nat) : Int) + (X + ((t % Wn : Nat) : Int))) = X + (t : Int) ∧ IntKind.i64.wrap (X + (t : Int) - X) = (t : Int)) := by
  have h1 := hr.x1
  have h2 := hr.x2
  have h3 := hr.y1
  have h4 := hr.y2
  have h5 := hr.n
  have hd := Nat.div_add_mod t Wn
  have hle : t / Wn ≤ t := Nat.div_le_self _ _
  have hmul : t / Wn * Wn + t % Wn = t := by rw [Nat.mul_comm]; exact hd
  have hc : (((t / Wn : Nat) : Int) * (Wn : Int)) = ((t / Wn * Wn : Nat) : Int) := by rw [Int.natCast_mul]
  rw [hc]
  generalize t / Wn * Wn = q at *
  generalize t / Wn = d at *
  generalize t % Wn = r at *
  refine ⟨⟨?_, ?_, ?_, ?_⟩, ⟨?_, ?_, ?_, ?_⟩⟩
  · rw [IntWalk.wrap64_in _ ⟨by omega, by omega⟩]; omega
  · exact IntWalk.wrap64_in _ ⟨by omega, by omega⟩
  · rw [IntWalk.wrap64_in _ ⟨by omega, by omega⟩]; omega
  · rw [IntWalk.wrap64_in _ ⟨by omega, by omega⟩]; omega
  · rw [IntWalk.i64_in _ ⟨by omega, by omega⟩]; omega
  · exact IntWalk.i64_in _ ⟨by omega, by omega⟩
  · rw [IntWalk.i64_in _ ⟨by omega, by omega⟩]; omega
  · rw [IntWalk.i64_in _ ⟨by omega, by omega⟩]; omega
set_option maxRecDepth 100000 in
set_option maxHeartbeats 6400000 in
theorem tw_good (X Y : Int) (Wn Hn : Nat) (A : Option Addr) (N c : Nat) (R : RlR) (C : Option Addr) (m cc k t : Nat) (lf : List Nat) (X' Y' W' H' : Int) (l : List Nat) (bx by' : Int) (w : World)
    (hr : Reg X Y Wn Hn) (hN : N = Wn * Hn) (hR : RlOk R N) (hn : lf.length = N) (hh : ∀ j, j < N → Bd 20 (lf.getD j 0)) (hk : k < N) (ht : t < N) (hV : Rd w A (flt lf)) (hCo : CoR w C m R.co) (hC : CoP w C m X' Y' W' H' l) (hm : m ≤ 140737488351232) (hg : grndE X Y Wn Hn lf R.gr R.wt R.br R.de R.sp m X' Y' W' H' l = 0) :
    Calls Try.prog 3 #[.agg #[.int .i64 X, .int .i64 Y, .int .i64 (Wn : Int), .int .i64 (Hn : Int), .slice A N c], .agg #[.float .f32 R.gr, .float .f32 R.wt, .float .f32 R.br, .float .f32 R.de, .int .i64 (R.sp : Int), .slice C m cc], .agg #[.int .i64 (X + ((k % Wn : Nat) : Int)), .int .i64 (Y + ((k / Wn : Nat) : Int))], .agg #[.int .i64 (X + ((t % Wn : Nat) : Int)), .int .i64 (Y + ((t / Wn : Nat) : Int))], .agg #[.int .i64 bx, .int .i64 by']] w fun e w' => e = .returned (.bool true) ∧ Ext w w' := by
  have hN6 : N ≤ 65536 := by rw [hN]; exact hr.n
  have hW := hr.w1
  have hE := edA_ok hR hN hh
  have ek : kOf X Y Wn (X + ((k % Wn : Nat) : Int), Y + ((k / Wn : Nat) : Int)) = k := kOf_cpt
  have et : kOf X Y Wn (X + ((t % Wn : Nat) : Int), Y + ((t / Wn : Nat) : Int)) = t := kOf_cpt
  have HWy := fun (ax ay dx dy : Int) (w' : World) (h : Ext w w') => hidA (Way_u X Y Wn Hn A N c R C m cc lf X' Y' W' H' l ax ay dx dy w' hr hN hR hn hh (hV.ext h) (hCo.ext h) (hC.ext h) hm hg)
  have HPO := fun (w' : World) (h : Ext w w') (B : Option Addr) (q d : Nat) (ps : List (Int × Int)) (h1 : ps.length = q) (h2 : Rd w' B (ptv ps)) (h3 : q ≤ d) (h4 : 1 ≤ q) (h5 : q ≤ 65536) (h6 : ∀ p, p ∈ ps → ∃ k, k < N ∧ p = cpt X Y Wn k) (u : Nat) (hu : prA R (fun j => lf.getD j 0) X Y Wn Hn ps (q - 1) = some u) => hidA (show Calls Try.prog 7 #[.agg #[.int .i64 X, .int .i64 Y, .int .i64 (Wn : Int), .int .i64 (Hn : Int), .slice A N c], .agg #[.float .f32 R.gr, .float .f32 R.wt, .float .f32 R.br, .float .f32 R.de, .int .i64 (R.sp : Int), .slice C m cc], .slice B q d] w' fun e w'' => e = .returned (.tuple #[.float .f32 u, .int .i64 0]) ∧ Ext w' w'' from by
    have h9 := Price_ok X Y Wn Hn A N c R C m cc lf X' Y' W' H' l B q d ps w' hr hN hR hn hh (hV.ext h) (hCo.ext h) (hC.ext h) hm hg h1 h2 h3 (by unfold amtE; rw [if_neg (by omega), if_neg (by omega)]) (fun p hp => by
      obtain ⟨j, hj, rfl⟩ := h6 p hp
      exact cpt_in hr hN hj)
    rw [hu] at h9
    exact h9)
  have HPU := fun (w' : World) (h : Ext w w') (B : Option Addr) (q d : Nat) (ps : List (Int × Int)) (h1 : ps.length = q) (h2 : Rd w' B (ptv ps)) (h3 : q ≤ d) (h4 : 1 ≤ q) (h6 : ∀ p, p ∈ ps → ∃ k, k < N ∧ p = cpt X Y Wn k) (u : Nat) (hu : prA R (fun j => lf.getD j 0) X Y Wn Hn ps (q - 1) = some u) => hidA (show Calls Try.prog 7 #[.agg #[.int .i64 X, .int .i64 Y, .int .i64 (Wn : Int), .int .i64 (Hn : Int), .slice A N c], .agg #[.float .f32 R.gr, .float .f32 R.wt, .float .f32 R.br, .float .f32 R.de, .int .i64 (R.sp : Int), .slice C m cc], .slice B q d] w' fun e w'' => ∃ (cv : Nat) (gv : Int), e = .returned (.tuple #[.float .f32 cv, .int .i64 gv]) ∧ Ext w' w'' ∧ (gv = 4 ∨ gv = 0 ∧ cv = u) from by
    by_cases h5 : q ≤ 65536
    · refine ((HPO w' h B q d ps h1 h2 h3 h4 h5 h6 u hu).out).mono ?_
      rintro e w'' ⟨rfl, h7⟩
      exact ⟨u, 0, rfl, h7, .inr ⟨rfl, rfl⟩⟩
    · have ha : amtE q = 4 := by unfold amtE; rw [if_neg (by omega), if_pos (by omega)]
      refine (Price_bad2 X Y Wn Hn A N c lf R.gr R.wt R.br R.de R.sp C m cc X' Y' W' H' l B q d w' hn (hV.ext h) (by omega) (hC.ext h) hm hg (by rw [ha]; decide)).mono ?_
      rintro e w'' ⟨rfl, h7⟩
      exact ⟨0, amtE q, rfl, h7, .inl ha⟩)
  have HCs := fun (w0 : World) (h0 : Ext w w0) => hidA (Costs_of X Y Wn Hn A N c R.gr R.wt R.br R.de R.sp C m cc (X + ((k % Wn : Nat) : Int)) (Y + ((k / Wn : Nat) : Int)) w0 (fun v u e w => ∃ go gs P sn, v = .slice (some ⟨go, 0, none⟩) N N ∧ u = .slice (some ⟨gs, 0, none⟩) N N ∧ e = 0 ∧ Bk w go 27 (flo N P) ∧ Bk w gs 4 (bools N sn) ∧ PrOk N (edA R (fun j => lf.getD j 0) Wn Hn N) k sn P)
    (fun v u e w1 w2 ⟨go, gs, P, sn, h1, h2, h3, h4, h5, h6⟩ hx => ⟨go, gs, P, sn, h1, h2, h3, h4.ext hx, h5.ext hx, h6⟩)
    (fun w' h => hidA ((pricesFrom_ok X Y Wn Hn A N c R C m cc k lf X' Y' W' H' l w' hr hN hR hn hh hk (hV.ext (h0.trans h)) (hCo.ext (h0.trans h)) (hC.ext (h0.trans h)) hg).mono (by
      rintro e w'' ⟨go, gs, P, sn, rfl, _, _, h1, h2, h3, h4⟩
      exact ⟨k, _, _, _, _, _, _, _, rfl, h4, go, gs, P, sn, rfl, rfl, rfl, h1, h2, h3⟩))))
  have HCq := fun (w0 : World) (h0 : Ext w w0) => hidA (show Calls Try.prog 6 #[.agg #[.int .i64 X, .int .i64 Y, .int .i64 (Wn : Int), .int .i64 (Hn : Int), .slice A N c], .agg #[.float .f32 R.gr, .float .f32 R.wt, .float .f32 R.br, .float .f32 R.de, .int .i64 (R.sp : Int), .slice C m cc], .agg #[.int .i64 (X + ((k % Wn : Nat) : Int)), .int .i64 (Y + ((k / Wn : Nat) : Int))]] w0 fun e w' => ∃ (go gs : Nat) (P : Nat → Nat) (sn : Nat → Bool), e = .returned (.tuple #[.slice (some ⟨go, 0, none⟩) N N, .slice (some ⟨gs, 0, none⟩) N N, .int .i64 0]) ∧ Ext w0 w' ∧ Bk w' go 27 (flo N P) ∧ Bk w' gs 4 (bools N sn) ∧ PrOk N (edA R (fun j => lf.getD j 0) Wn Hn N) k sn P from
    (HCs w0 h0).out.mono (by
      rintro e w'' ⟨_, _, _, _, _, _, _, rfl, h1, go, gs, P, sn, e1, e2, e3, h4, h5, h6⟩
      exact ⟨go, gs, P, sn, by rw [e1, e2, e3], h1, h4, h5, h6⟩))
  clear HCs
  have HW := fun (w : World) => hidA (landed_any w)
  obtain ⟨⟨m1, m2, m3, m4⟩, m5, m6, m7, m8⟩ := idx_w hr (show t < Wn * Hn by rw [← hN]; exact ht)
  have tN : (t : Int) < N := by omega
  have t0 : (0 : Int) ≤ t := by omega
  have HE := hidA hE
  have HN := hidA hN
  have HWn := hidA hW
  have Ht := hidA ht
  obtain ⟨ti, hi0, hz0, hz1, hz2⟩ := info_parts infoPt
  have HW1 := HWy (X + ((k % Wn : Nat) : Int)) (Y + ((k / Wn : Nat) : Int)) (X + ((t % Wn : Nat) : Int)) (Y + ((t / Wn : Nat) : Int))
  have HW2 := HWy (X + ((k % Wn : Nat) : Int)) (Y + ((k / Wn : Nat) : Int)) bx by'
  have HW3 := HWy bx by' (X + ((t % Wn : Nat) : Int)) (Y + ((t / Wn : Nat) : Int))
  rw [ek] at HW1 HW2
  rw [et] at HW1 HW3
  clear HWy hr hN hR hn hh hk ht hV hCo hC hm hg ek et hE hW
  generalize kOf X Y Wn (bx, by') = kb at *
  generalize X + ((k % Wn : Nat) : Int) = ax at *
  generalize Y + ((k / Wn : Nat) : Int) = ay at *
  generalize X + ((t % Wn : Nat) : Int) = dx at *
  generalize Y + ((t / Wn : Nat) : Int) = dy at *
  generalize ((t / Wn : Nat) : Int) = ty at *
  generalize ((t / Wn * Wn : Nat) : Int) = tz at *
  go_enter Try.func3, Try.ntmps3
  go_upto_region 1 with fail
  obtain ⟨w0, hw0⟩ : ∃ w0, w0 = ((((w.alloc (.cells #[.int .i64 X, .int .i64 Y, .int .i64 (Wn : Int), .int .i64 (Hn : Int), .slice A N c] 26)).alloc (.cells #[.float .f32 R.gr, .float .f32 R.wt, .float .f32 R.br, .float .f32 R.de, .int .i64 (R.sp : Int), .slice C m cc] 30)).alloc (.cells #[.int .i64 ax, .int .i64 ay] 32)).alloc (.cells #[.int .i64 dx, .int .i64 dy] 32)).alloc (.cells #[.int .i64 bx, .int .i64 by'] 32) := ⟨_, rfl⟩
  have kF : Bk w0 w.heap.size 26 #[.int .i64 X, .int .i64 Y, .int .i64 (Wn : Int), .int .i64 (Hn : Int), .slice A N c] := by rw [hw0]; exact ((((Bk.new' rfl).alloc _).alloc _).alloc _).alloc _
  have kR : Bk w0 (w.heap.size + 1) 30 #[.float .f32 R.gr, .float .f32 R.wt, .float .f32 R.br, .float .f32 R.de, .int .i64 (R.sp : Int), .slice C m cc] := by rw [hw0]; exact (((Bk.new' (by simp)).alloc _).alloc _).alloc _
  have kA : Bk w0 (w.heap.size + 1 + 1) 32 #[.int .i64 ax, .int .i64 ay] := by rw [hw0]; exact ((Bk.new' (by simp)).alloc _).alloc _
  have kD : Bk w0 (w.heap.size + 1 + 1 + 1) 32 #[.int .i64 dx, .int .i64 dy] := by rw [hw0]; exact (Bk.new' (by simp)).alloc _
  have kB : Bk w0 (w.heap.size + 1 + 1 + 1 + 1) 32 #[.int .i64 bx, .int .i64 by'] := by rw [hw0]; exact Bk.new' (by simp)
  have hx0 : Ext w w0 := by rw [hw0]; exact (((((Ext.refl w).alloc _).alloc _).alloc _).alloc _).alloc _
  rw [← hw0]
  clear hw0
  generalize w.heap.size + 1 + 1 + 1 + 1 = hb' at *
  generalize w.heap.size + 1 + 1 + 1 = hd' at *
  generalize w.heap.size + 1 + 1 = ha' at *
  generalize w.heap.size + 1 = hr' at *
  generalize hfe : w.heap.size = hf at *
  clear hfe
  go_upto_region 3 with (go_at_call 4; refine ((HW _).out).mono ?_; rintro e w1 ⟨rfl, hx1⟩)
  have x0 := (kF.ext hx1).cell 0
  have x1 := (kF.ext hx1).cell 1
  have x2 := (kF.ext hx1).cell 2
  have x3 := (kF.ext hx1).cell 3
  have x4 := (kF.ext hx1).cell 4
  have y0 := (kR.ext hx1).cell 0
  have y1 := (kR.ext hx1).cell 1
  have y2 := (kR.ext hx1).cell 2
  have y3 := (kR.ext hx1).cell 3
  have y4 := (kR.ext hx1).cell 4
  have y5 := (kR.ext hx1).cell 5
  have u0 := (kA.ext hx1).cell 0
  have u1 := (kA.ext hx1).cell 1
  have z0 := (kD.ext hx1).cell 0
  have z1 := (kD.ext hx1).cell 1
  go_upto_region 4 with (go_at_call 5; refine ((HW1 _ (hx0.trans hx1)).out).mono ?_; rintro e w2 ⟨v, pv, ev, rfl, hx2, ⟨B1, q, cap, hv1⟩, hwu⟩)
  subst hv1
  clear x0 x1 x2 x3 x4 y0 y1 y2 y3 y4 y5 u0 u1 z0 z1 HW HW1
  rcases hwu with hne | ⟨rfl, sn, P, ps, B', cap', hG⟩
  · have hne2 : (ev != 0) = true := by simpa using hne
    go_wp2
    go_ret
    exact ⟨by first | rfl | simp, hx0.trans (hx1.trans hx2)⟩
  · have hvv := hG.vv
    injection hvv with e1 e2 e3
    subst e1 e3
    have hpp := hG.pv
    subst hpp
    have HG := hidA hG
    have hrp : Rd w2 B1 (ptv ps) := hG.rd
    have hpos : 0 < (ptv ps).length := by rw [ptv_length]; have := hG.l1; omega
    obtain ⟨adP, rfl, _, _⟩ := hrp (by intro e; rw [e] at hpos; simp at hpos)
    have HRp := hidA hrp
    have Hq := hidA e2
    have hq6 : q ≤ 65536 := by have := hG.lN; omega
    have HqN := hidA hq6
    have Hq1 := hidA (show 1 ≤ q by have := hG.l1; omega)
    have Hcap := hidA (show q ≤ cap by have := hG.lc; omega)
    have Hmem := hidA hG.mem
    have HPre := hidA (fun (i : Nat) (h : i < q) => prA_of i (fun j hj => prA_steps _ _ hG.price j (by omega)))
    have HTl := hidA (fun (i : Nat) (h : i < q) => show (ps.take (i + 1)).length = i + 1 from by rw [List.length_take]; omega)
    have HTp := hidA (fun (i s : Nat) (_ : i < q) (h : prA R (fun j => lf.getD j 0) X Y Wn Hn ps i = some s) => show prA R (fun j => lf.getD j 0) X Y Wn Hn (ps.take (i + 1)) (i + 1 - 1) = some s from by rw [Nat.add_sub_cancel, prA_take i (Nat.lt_succ_self i)]; exact h)
    have HPi := fun (i s : Nat) (h : i < q) (hs : prA R (fun j => lf.getD j 0) X Y Wn Hn ps i = some s) (w' : World) (h0 : Ext w w') (h2 : Ext w2 w') => HPO w' h0 (some adP) (i + 1) cap (ps.take (i + 1)) (HTl.out i h) (Rd.ptake (i + 1) (HRp.out.ext h2)) (Nat.le_trans h Hcap.out) (Nat.le_add_left 1 i) (Nat.le_trans h HqN.out) (fun p hp => Hmem.out p (List.mem_of_mem_take hp)) s (HTp.out i s h hs)
    have HGt := hidA (fun (i s : Nat) (h : i < q) (hs : prA R (fun j => lf.getD j 0) X Y Wn Hn ps i = some s) => show (FloatKind.f32.format.order s (P t) == some .gt) = false from
      gt_no (bd_Fin (prA_way HE.out HWn.out HN.out i s (fun j hj => hG.cell (by omega)) hs).2.1 (by omega)) (bd_Fin (hG.pr.ob t Ht.out).1 (by omega)) (prA_mono HE.out HWn.out HN.out (ps.length - 1) s (P t) (by omega) (fun z hz => hG.cell (by omega)) hs hG.price))
    have hxa := hx1.trans hx2
    clear hG hrp hpos e2
    have x0 := (kF.ext hxa).cell 0
    have x1 := (kF.ext hxa).cell 1
    have x2 := (kF.ext hxa).cell 2
    have x3 := (kF.ext hxa).cell 3
    have x4 := (kF.ext hxa).cell 4
    have y0 := (kR.ext hxa).cell 0
    have y1 := (kR.ext hxa).cell 1
    have y2 := (kR.ext hxa).cell 2
    have y3 := (kR.ext hxa).cell 3
    have y4 := (kR.ext hxa).cell 4
    have y5 := (kR.ext hxa).cell 5
    have u0 := (kA.ext hxa).cell 0
    have u1 := (kA.ext hxa).cell 1
    have z0 := (kD.ext hxa).cell 0
    have z1 := (kD.ext hxa).cell 1
    go_upto_region 7 with (go_at_call 6; refine ((HCq _ (hx0.trans hxa)).out).mono ?_; rintro e w3 ⟨go, gs, P', sn', rfl, hx3, kO, kS, hOk⟩)
    have hu := HG.out.pr.unique HE.out hOk Ht.out
    have hxb := hxa.trans hx3
    have Hst := hidA (show sn' t = true by rw [← hu.1]; exact HG.out.st)
    have Hu := hidA hu
    clear hu
    clear x0 x1 x2 x3 x4 y0 y1 y2 y3 y4 y5 u0 u1 z0 z1 HCq hx1
    have x0 := (kF.ext hxb).cell 0
    have x1 := (kF.ext hxb).cell 1
    have x2 := (kF.ext hxb).cell 2
    have x3 := (kF.ext hxb).cell 3
    have x4 := (kF.ext hxb).cell 4
    have z0 := (kD.ext hxb).cell 0
    have z1 := (kD.ext hxb).cell 1
    go_upto_region 8 with fail
    clear x0 x1 x2 x3 x4 z0 z1
    have HP1 := HPO w3 (hx0.trans hxb) (some adP) q cap ps Hq.out.symm (HRp.out.ext hx3) Hcap.out Hq1.out HqN.out Hmem.out (P t) (by rw [Hq.out]; exact HG.out.price)
    have x0 := (kF.ext hxb).cell 0
    have x1 := (kF.ext hxb).cell 1
    have x2 := (kF.ext hxb).cell 2
    have x3 := (kF.ext hxb).cell 3
    have x4 := (kF.ext hxb).cell 4
    have y0 := (kR.ext hxb).cell 0
    have y1 := (kR.ext hxb).cell 1
    have y2 := (kR.ext hxb).cell 2
    have y3 := (kR.ext hxb).cell 3
    have y4 := (kR.ext hxb).cell 4
    have y5 := (kR.ext hxb).cell 5
    go_upto_region 9 with (go_at_call 7; refine (HP1.out).mono ?_; rintro e w4 ⟨rfl, hx4⟩)
    have s1 : w4.cell? ⟨gs, t, none⟩ = some (.bool true) := by rw [(kS.ext hx4).cell, ← Hst.out]; exact bools_get _ Ht.out
    have o1 : w4.cell? ⟨go, t, none⟩ = some (.float .f32 (P t)) := by rw [(kO.ext hx4).cell, Hu.out.2]; exact flo_get _ Ht.out
    have heq := eq_yes (bd_Fin (HG.out.pr.ob t Ht.out).1 (by omega))
    have heq2 : FloatKind.f32.format.order (P t) (P t) = some .eq := eq_of_beq heq
    have hxc := hxb.trans hx4
    have hx24 := hx3.trans hx4
    clear x0 x1 x2 x3 x4 y0 y1 y2 y3 y4 y5 HP1 Hu Hst hOk kO kS hxb hx3 hx4 hxa
    go_upto_region 11 with fail
    clear s1 o1 heq heq2 m1 m2 m3 m4 m5 m6 m7 m8
    have x0 := (kF.ext hxc).cell 0
    have x1 := (kF.ext hxc).cell 1
    have x2 := (kF.ext hxc).cell 2
    have x3 := (kF.ext hxc).cell 3
    have x4 := (kF.ext hxc).cell 4
    have y0 := (kR.ext hxc).cell 0
    have y1 := (kR.ext hxc).cell 1
    have y2 := (kR.ext hxc).cell 2
    have y3 := (kR.ext hxc).cell 3
    have y4 := (kR.ext hxc).cell 4
    have y5 := (kR.ext hxc).cell 5
    have u0 := (kA.ext hxc).cell 0
    have u1 := (kA.ext hxc).cell 1
    have v0 := (kB.ext hxc).cell 0
    have v1 := (kB.ext hxc).cell 1
    go_upto_region 12 with (go_at_call 5; refine ((HW2 _ (hx0.trans hxc)).out).mono ?_; rintro e w5 ⟨v2, pv2, ev2, rfl, hx5, ⟨B2, q2, cap2, hv2⟩, hwu2⟩)
    subst hv2
    have hxd := hxc.trans hx5
    clear x0 x1 x2 x3 x4 y0 y1 y2 y3 y4 y5 u0 u1 v0 v1 HW2
    have x0 := (kF.ext hxd).cell 0
    have x1 := (kF.ext hxd).cell 1
    have x2 := (kF.ext hxd).cell 2
    have x3 := (kF.ext hxd).cell 3
    have x4 := (kF.ext hxd).cell 4
    have y0 := (kR.ext hxd).cell 0
    have y1 := (kR.ext hxd).cell 1
    have y2 := (kR.ext hxd).cell 2
    have y3 := (kR.ext hxd).cell 3
    have y4 := (kR.ext hxd).cell 4
    have y5 := (kR.ext hxd).cell 5
    have v0 := (kB.ext hxd).cell 0
    have v1 := (kB.ext hxd).cell 1
    have z0 := (kD.ext hxd).cell 0
    have z1 := (kD.ext hxd).cell 1
    go_upto_region 13 with (go_at_call 5; refine ((HW3 _ (hx0.trans hxd)).out).mono ?_; rintro e w6 ⟨v3, pv3, ev3, rfl, hx6, ⟨B3, q3, cap3, hv3⟩, hwu3⟩)
    subst hv3
    have Hxw6 := hidA (hxd.trans hx6)
    have Hx2w6 := hidA (hx24.trans (hx5.trans hx6))
    have Hx56 := hidA hx6
    clear x0 x1 x2 x3 x4 y0 y1 y2 y3 y4 y5 v0 v1 z0 z1 HW3 hxd hxc hx24 hx5
    rcases hwu2 with hne | ⟨rfl, sn2, P2, ps2, B2', cap2', hG2⟩
    · have hne2 : (ev2 == 0) = false := by simpa using hne
      clear hne hwu3 hx6 HPU
      go_upto_region 18 with fail
      go_loopw [147] (fun s147 wr => ∃ i : Nat, i ≤ q ∧ s147 = .int .i64 i ∧ Ext w6 wr) (fun s147 _ => q - (intOf s147).toNat)
      case atStart => exact ⟨0, Nat.zero_le _, rfl, Ext.refl _⟩
      case round =>
        obtain ⟨i, hi, rfl, hx⟩ := hrel
        by_cases hiq : i < q
        · have Hiq := hidA hiq
          have i0 : (0 : Int) ≤ i := by omega
          have i1 : (i : Int) < q := by omega
          have i2 : (0 : Int) ≤ ((i + 1 : Nat) : Int) := by omega
          have i3 : ((i + 1 : Nat) : Int) ≤ cap := by have := Hcap.out; omega
          have i4 : (0 : Int) ≤ (i : Int) + 1 := by omega
          have i5 : (i : Int) + 1 ≤ cap := by have := Hcap.out; omega
          have iw : IntKind.i64.wrap ((i : Int) + 1) = ((i + 1 : Nat) : Int) := by rw [IntWalk.i64_in _ ⟨by omega, by omega⟩]; omega
          have iw2 : wrap64 ((i : Int) + 1) = ((i + 1 : Nat) : Int) := by rw [IntWalk.wrap64_in _ ⟨by omega, by omega⟩]; omega
          obtain ⟨s, hs⟩ := HPre.out i hiq
          have hgt := HGt.out i s hiq hs
          have hgt2 : ¬ FloatKind.f32.format.order s (P t) = some .gt := ne_of_beq hgt
          have HPq := fun (w' : World) (h : Ext wr w') => HPi i s hiq hs w' (hx0.trans (Hxw6.out.trans (hx.trans h))) (Hx2w6.out.trans (hx.trans h))
          have Hxwr := hidA (Hxw6.out.trans hx)
          have f0 : ∀ w', Ext wr w' → w'.cell? ⟨hf, 0, none⟩ = some (.int .i64 X) := fun w' h => (kF.ext (Hxwr.out.trans h)).cell 0
          have f1 : ∀ w', Ext wr w' → w'.cell? ⟨hf, 1, none⟩ = some (.int .i64 Y) := fun w' h => (kF.ext (Hxwr.out.trans h)).cell 1
          have f2 : ∀ w', Ext wr w' → w'.cell? ⟨hf, 2, none⟩ = some (.int .i64 (Wn : Int)) := fun w' h => (kF.ext (Hxwr.out.trans h)).cell 2
          have f3 : ∀ w', Ext wr w' → w'.cell? ⟨hf, 3, none⟩ = some (.int .i64 (Hn : Int)) := fun w' h => (kF.ext (Hxwr.out.trans h)).cell 3
          have f4 : ∀ w', Ext wr w' → w'.cell? ⟨hf, 4, none⟩ = some (.slice A N c) := fun w' h => (kF.ext (Hxwr.out.trans h)).cell 4
          have r0 : ∀ w', Ext wr w' → w'.cell? ⟨hr', 0, none⟩ = some (.float .f32 R.gr) := fun w' h => (kR.ext (Hxwr.out.trans h)).cell 0
          have r1 : ∀ w', Ext wr w' → w'.cell? ⟨hr', 1, none⟩ = some (.float .f32 R.wt) := fun w' h => (kR.ext (Hxwr.out.trans h)).cell 1
          have r2 : ∀ w', Ext wr w' → w'.cell? ⟨hr', 2, none⟩ = some (.float .f32 R.br) := fun w' h => (kR.ext (Hxwr.out.trans h)).cell 2
          have r3 : ∀ w', Ext wr w' → w'.cell? ⟨hr', 3, none⟩ = some (.float .f32 R.de) := fun w' h => (kR.ext (Hxwr.out.trans h)).cell 3
          have r4 : ∀ w', Ext wr w' → w'.cell? ⟨hr', 4, none⟩ = some (.int .i64 (R.sp : Int)) := fun w' h => (kR.ext (Hxwr.out.trans h)).cell 4
          have r5 : ∀ w', Ext wr w' → w'.cell? ⟨hr', 5, none⟩ = some (.slice C m cc) := fun w' h => (kR.ext (Hxwr.out.trans h)).cell 5

          clear hs hi hiq
          go_upto_region 20 with fail
          refine wp_region_noPanic ?_
          refine wp_region_held_drew (S := fun w' => Ext wr w') (by kernel_rfl) ?_ (fun hHeld => ?_)
          · (repeat (first | exact Ext.refl _ | assumption | refine Ext.setCell ?_ (by first | (simp; done) | (simp; omega)) _ | refine Ext.drewN ?_ _ | refine Ext.alloc ?_ _ | refine Ext.drew ?_ | refine Ext.trans ?_ (by assumption)))
          refine wpAnyH_take (i := 0) (oi := ?o1x0) (v := ?v1x0) ?hi1x0 (by kernel_rfl) ?hf1x0 ?hr1x0 (fun _ _ _ h => h) ?hy1x0 (by assumption) ?rest1x0
          case hi1x0 => (simp only [List.getElem?_toArray, List.getElem?_cons_zero]; exact rfl)
          case hf1x0 => kernel_rfl
          case hr1x0 => kernel_rfl
          case hy1x0 => (refine Or.inl ⟨by rfl, ?_⟩; intro w hSw; (try dsimp only at hSw); go_simp; try with_reducible rfl)
          simp only [put_mk, List.set_cons_succ, List.set_cons_zero]
          refine wpAnyH_take (i := 1) (oi := ?o1x1) (v := ?v1x1) ?hi1x1 (by kernel_rfl) ?hf1x1 ?hr1x1 (fun _ _ _ h => h) ?hy1x1 (by assumption) ?rest1x1
          case hi1x1 => (simp only [List.getElem?_toArray, List.getElem?_cons_succ, List.getElem?_cons_zero]; exact rfl)
          case hf1x1 => kernel_rfl
          case hr1x1 => kernel_rfl
          case hy1x1 => (refine Or.inl ⟨by rfl, ?_⟩; intro w hSw; (try dsimp only at hSw); go_simp; try with_reducible rfl)
          simp only [put_mk, List.set_cons_succ, List.set_cons_zero]
          refine wpAnyH_take (i := 2) (oi := ?o1x2) (v := ?v1x2) ?hi1x2 (by kernel_rfl) ?hf1x2 ?hr1x2 (fun _ _ _ h => h) ?hy1x2 (by assumption) ?rest1x2
          case hi1x2 => (simp only [List.getElem?_toArray, List.getElem?_cons_succ, List.getElem?_cons_zero]; exact rfl)
          case hf1x2 => kernel_rfl
          case hr1x2 => kernel_rfl
          case hy1x2 => (refine Or.inl ⟨by rfl, ?_⟩; intro w hSw; (try dsimp only at hSw); go_simp; try with_reducible rfl)
          simp only [put_mk, List.set_cons_succ, List.set_cons_zero]
          refine wpAnyH_take (i := 3) (oi := ?o1x3) (v := ?v1x3) ?hi1x3 (by kernel_rfl) ?hf1x3 ?hr1x3 (fun _ _ _ h => h) ?hy1x3 (by assumption) ?rest1x3
          case hi1x3 => (simp only [List.getElem?_toArray, List.getElem?_cons_succ, List.getElem?_cons_zero]; exact rfl)
          case hf1x3 => kernel_rfl
          case hr1x3 => kernel_rfl
          case hy1x3 => (refine Or.inl ⟨by rfl, ?_⟩; intro w hSw; (try dsimp only at hSw); go_simp; try with_reducible rfl)
          simp only [put_mk, List.set_cons_succ, List.set_cons_zero]
          refine wpAnyH_take (i := 4) (oi := ?o1x4) (v := ?v1x4) ?hi1x4 (by kernel_rfl) ?hf1x4 ?hr1x4 (fun _ _ _ h => h) ?hy1x4 (by assumption) ?rest1x4
          case hi1x4 => (simp only [List.getElem?_toArray, List.getElem?_cons_succ, List.getElem?_cons_zero]; exact rfl)
          case hf1x4 => kernel_rfl
          case hr1x4 => kernel_rfl
          case hy1x4 => (refine Or.inl ⟨by rfl, ?_⟩; intro w hSw; (try dsimp only at hSw); go_simp; try with_reducible rfl)
          simp only [put_mk, List.set_cons_succ, List.set_cons_zero]
          refine wpAnyH_take (i := 5) (oi := ?o1x5) (v := ?v1x5) ?hi1x5 (by kernel_rfl) ?hf1x5 ?hr1x5 (fun _ _ _ h => h) ?hy1x5 (by assumption) ?rest1x5
          case hi1x5 => (simp only [List.getElem?_toArray, List.getElem?_cons_succ, List.getElem?_cons_zero]; exact rfl)
          case hf1x5 => kernel_rfl
          case hr1x5 => kernel_rfl
          case hy1x5 => (refine Or.inl ⟨by rfl, ?_⟩; intro w hSw; (try dsimp only at hSw); go_simp; try with_reducible rfl)
          simp only [put_mk, List.set_cons_succ, List.set_cons_zero]
          refine wpAnyH_ready (rs := [6]) (by kernel_rfl) (by simp) ?_
          refine AllReadyH.cons (o := ?o1x6) ?hi1x6 (fun K hK => ?_) AllReadyH.nil
          case hi1x6 => (simp only [List.getElem?_toArray, List.getElem?_cons_succ, List.getElem?_cons_zero]; exact rfl)
          go_simp
          go_at_call 7
          refine ((HPq _ (by repeat (first | exact Ext.refl _ | assumption | refine Ext.setCell ?_ (by first | (simp; done) | (simp; omega)) _ | refine Ext.drewN ?_ _ | refine Ext.alloc ?_ _ | refine Ext.drew ?_ | refine Ext.trans ?_ (by assumption)))).out).mono ?_
          rintro e wp ⟨rfl, hxp⟩
          refine hK.out _ _ ?_ (fun hHeld => ?_)
          · (repeat (first | exact Ext.refl _ | assumption | refine Ext.setCell ?_ (by first | (simp; done) | (simp; omega)) _ | refine Ext.drewN ?_ _ | refine Ext.alloc ?_ _ | refine Ext.drew ?_ | refine Ext.trans ?_ (by assumption)))
          clear hK K
          refine wpAnyH_take (i := 7) (oi := ?o1x7) (v := ?v1x7) ?hi1x7 (by kernel_rfl) ?hf1x7 ?hr1x7 (fun _ _ _ h => h) ?hy1x7 (by assumption) ?rest1x7
          case hi1x7 => (simp only [List.getElem?_toArray, List.getElem?_cons_succ, List.getElem?_cons_zero]; exact rfl)
          case hf1x7 => kernel_rfl
          case hr1x7 => kernel_rfl
          case hy1x7 => (refine Or.inl ⟨by rfl, ?_⟩; intro w hSw; (try dsimp only at hSw); go_simp; try with_reducible rfl)
          simp only [put_mk, List.set_cons_succ, List.set_cons_zero]
          refine wpAnyH_take (i := 8) (oi := ?o1x8) (v := ?v1x8) ?hi1x8 (by kernel_rfl) ?hf1x8 ?hr1x8 (fun _ _ _ h => h) ?hy1x8 (by assumption) ?rest1x8
          case hi1x8 => (simp only [List.getElem?_toArray, List.getElem?_cons_succ, List.getElem?_cons_zero]; exact rfl)
          case hf1x8 => kernel_rfl
          case hr1x8 => kernel_rfl
          case hy1x8 => (refine Or.inl ⟨by rfl, ?_⟩; intro w hSw; (try dsimp only at hSw); go_simp; try with_reducible rfl)
          simp only [put_mk, List.set_cons_succ, List.set_cons_zero]
          refine wpAnyH_take (i := 9) (oi := ?o1x9) (v := ?v1x9) ?hi1x9 (by kernel_rfl) ?hf1x9 ?hr1x9 (fun _ _ _ h => h) ?hy1x9 (by assumption) ?rest1x9
          case hi1x9 => (simp only [List.getElem?_toArray, List.getElem?_cons_succ, List.getElem?_cons_zero]; exact rfl)
          case hf1x9 => kernel_rfl
          case hr1x9 => kernel_rfl
          case hy1x9 => (refine Or.inl ⟨by rfl, ?_⟩; intro w hSw; (try dsimp only at hSw); go_simp; try with_reducible rfl)
          simp only [put_mk, List.set_cons_succ, List.set_cons_zero]
          refine wpAnyH_take (i := 10) (oi := ?o1x10) (v := ?v1x10) ?hi1x10 (by kernel_rfl) ?hf1x10 ?hr1x10 (fun _ _ _ h => h) ?hy1x10 (by assumption) ?rest1x10
          case hi1x10 => (simp only [List.getElem?_toArray, List.getElem?_cons_succ, List.getElem?_cons_zero]; exact rfl)
          case hf1x10 => kernel_rfl
          case hr1x10 => kernel_rfl
          case hy1x10 => (refine Or.inl ⟨by rfl, ?_⟩; intro w hSw; (try dsimp only at hSw); go_simp; try with_reducible rfl)
          simp only [put_mk, List.set_cons_succ, List.set_cons_zero]
          refine wpAnyH_take (i := 11) (oi := ?o1x11) (v := ?v1x11) ?hi1x11 (by kernel_rfl) ?hf1x11 ?hr1x11 (fun _ _ _ h => h) ?hy1x11 (by assumption) ?rest1x11
          case hi1x11 => (simp only [List.getElem?_toArray, List.getElem?_cons_succ, List.getElem?_cons_zero]; exact rfl)
          case hf1x11 => kernel_rfl
          case hr1x11 => kernel_rfl
          case hy1x11 => (refine Or.inl ⟨by rfl, ?_⟩; intro w hSw; (try dsimp only at hSw); go_simp; try with_reducible rfl)
          simp only [put_mk, List.set_cons_succ, List.set_cons_zero]
          refine wpAnyH_done (by kernel_rfl) ?_ _
          refine NoPanic.normal ?_
          go_upto_region 21 with fail
          have hx5 := hx.trans hHeld
          clear f0 f1 f2 f3 f4 r0 r1 r2 r3 r4 r5 HPq hx
          go_wp2
          go_roundw
          case rel => exact ⟨i + 1, Hiq.out, (by first | rfl | go_num), hx5⟩
          case measure => first | exact nx_tw Hiq.out hq6 | exact nxt_tw Hiq.out
        · obtain rfl : i = q := by omega
          go_wp2
          go_ret
          exact ⟨rfl, hx0.trans (Hxw6.out.trans hx)⟩

    · rcases hwu3 with hne | ⟨rfl, sn3, P3, ps3, B3', cap3', hG3⟩
      · have hne2 : (ev3 == 0) = false := by simpa using hne
        clear hne hG2 hx6 HPU
        go_upto_region 18 with fail
        go_loopw [147] (fun s147 wr => ∃ i : Nat, i ≤ q ∧ s147 = .int .i64 i ∧ Ext w6 wr) (fun s147 _ => q - (intOf s147).toNat)
        case atStart => exact ⟨0, Nat.zero_le _, rfl, Ext.refl _⟩
        case round =>
          obtain ⟨i, hi, rfl, hx⟩ := hrel
          by_cases hiq : i < q
          · have Hiq := hidA hiq
            have i0 : (0 : Int) ≤ i := by omega
            have i1 : (i : Int) < q := by omega
            have i2 : (0 : Int) ≤ ((i + 1 : Nat) : Int) := by omega
            have i3 : ((i + 1 : Nat) : Int) ≤ cap := by have := Hcap.out; omega
            have i4 : (0 : Int) ≤ (i : Int) + 1 := by omega
            have i5 : (i : Int) + 1 ≤ cap := by have := Hcap.out; omega
            have iw : IntKind.i64.wrap ((i : Int) + 1) = ((i + 1 : Nat) : Int) := by rw [IntWalk.i64_in _ ⟨by omega, by omega⟩]; omega
            have iw2 : wrap64 ((i : Int) + 1) = ((i + 1 : Nat) : Int) := by rw [IntWalk.wrap64_in _ ⟨by omega, by omega⟩]; omega
            obtain ⟨s, hs⟩ := HPre.out i hiq
            have hgt := HGt.out i s hiq hs
            have hgt2 : ¬ FloatKind.f32.format.order s (P t) = some .gt := ne_of_beq hgt
            have HPq := fun (w' : World) (h : Ext wr w') => HPi i s hiq hs w' (hx0.trans (Hxw6.out.trans (hx.trans h))) (Hx2w6.out.trans (hx.trans h))
            have Hxwr := hidA (Hxw6.out.trans hx)
            have f0 : ∀ w', Ext wr w' → w'.cell? ⟨hf, 0, none⟩ = some (.int .i64 X) := fun w' h => (kF.ext (Hxwr.out.trans h)).cell 0
            have f1 : ∀ w', Ext wr w' → w'.cell? ⟨hf, 1, none⟩ = some (.int .i64 Y) := fun w' h => (kF.ext (Hxwr.out.trans h)).cell 1
            have f2 : ∀ w', Ext wr w' → w'.cell? ⟨hf, 2, none⟩ = some (.int .i64 (Wn : Int)) := fun w' h => (kF.ext (Hxwr.out.trans h)).cell 2
            have f3 : ∀ w', Ext wr w' → w'.cell? ⟨hf, 3, none⟩ = some (.int .i64 (Hn : Int)) := fun w' h => (kF.ext (Hxwr.out.trans h)).cell 3
            have f4 : ∀ w', Ext wr w' → w'.cell? ⟨hf, 4, none⟩ = some (.slice A N c) := fun w' h => (kF.ext (Hxwr.out.trans h)).cell 4
            have r0 : ∀ w', Ext wr w' → w'.cell? ⟨hr', 0, none⟩ = some (.float .f32 R.gr) := fun w' h => (kR.ext (Hxwr.out.trans h)).cell 0
            have r1 : ∀ w', Ext wr w' → w'.cell? ⟨hr', 1, none⟩ = some (.float .f32 R.wt) := fun w' h => (kR.ext (Hxwr.out.trans h)).cell 1
            have r2 : ∀ w', Ext wr w' → w'.cell? ⟨hr', 2, none⟩ = some (.float .f32 R.br) := fun w' h => (kR.ext (Hxwr.out.trans h)).cell 2
            have r3 : ∀ w', Ext wr w' → w'.cell? ⟨hr', 3, none⟩ = some (.float .f32 R.de) := fun w' h => (kR.ext (Hxwr.out.trans h)).cell 3
            have r4 : ∀ w', Ext wr w' → w'.cell? ⟨hr', 4, none⟩ = some (.int .i64 (R.sp : Int)) := fun w' h => (kR.ext (Hxwr.out.trans h)).cell 4
            have r5 : ∀ w', Ext wr w' → w'.cell? ⟨hr', 5, none⟩ = some (.slice C m cc) := fun w' h => (kR.ext (Hxwr.out.trans h)).cell 5

            clear hs hi hiq
            go_upto_region 20 with fail
            refine wp_region_noPanic ?_
            refine wp_region_held_drew (S := fun w' => Ext wr w') (by kernel_rfl) ?_ (fun hHeld => ?_)
            · (repeat (first | exact Ext.refl _ | assumption | refine Ext.setCell ?_ (by first | (simp; done) | (simp; omega)) _ | refine Ext.drewN ?_ _ | refine Ext.alloc ?_ _ | refine Ext.drew ?_ | refine Ext.trans ?_ (by assumption)))
            refine wpAnyH_take (i := 0) (oi := ?o2x0) (v := ?v2x0) ?hi2x0 (by kernel_rfl) ?hf2x0 ?hr2x0 (fun _ _ _ h => h) ?hy2x0 (by assumption) ?rest2x0
            case hi2x0 => (simp only [List.getElem?_toArray, List.getElem?_cons_zero]; exact rfl)
            case hf2x0 => kernel_rfl
            case hr2x0 => kernel_rfl
            case hy2x0 => (refine Or.inl ⟨by rfl, ?_⟩; intro w hSw; (try dsimp only at hSw); go_simp; try with_reducible rfl)
            simp only [put_mk, List.set_cons_succ, List.set_cons_zero]
            refine wpAnyH_take (i := 1) (oi := ?o2x1) (v := ?v2x1) ?hi2x1 (by kernel_rfl) ?hf2x1 ?hr2x1 (fun _ _ _ h => h) ?hy2x1 (by assumption) ?rest2x1
            case hi2x1 => (simp only [List.getElem?_toArray, List.getElem?_cons_succ, List.getElem?_cons_zero]; exact rfl)
            case hf2x1 => kernel_rfl
            case hr2x1 => kernel_rfl
            case hy2x1 => (refine Or.inl ⟨by rfl, ?_⟩; intro w hSw; (try dsimp only at hSw); go_simp; try with_reducible rfl)
            simp only [put_mk, List.set_cons_succ, List.set_cons_zero]
            refine wpAnyH_take (i := 2) (oi := ?o2x2) (v := ?v2x2) ?hi2x2 (by kernel_rfl) ?hf2x2 ?hr2x2 (fun _ _ _ h => h) ?hy2x2 (by assumption) ?rest2x2
            case hi2x2 => (simp only [List.getElem?_toArray, List.getElem?_cons_succ, List.getElem?_cons_zero]; exact rfl)
            case hf2x2 => kernel_rfl
            case hr2x2 => kernel_rfl
            case hy2x2 => (refine Or.inl ⟨by rfl, ?_⟩; intro w hSw; (try dsimp only at hSw); go_simp; try with_reducible rfl)
            simp only [put_mk, List.set_cons_succ, List.set_cons_zero]
            refine wpAnyH_take (i := 3) (oi := ?o2x3) (v := ?v2x3) ?hi2x3 (by kernel_rfl) ?hf2x3 ?hr2x3 (fun _ _ _ h => h) ?hy2x3 (by assumption) ?rest2x3
            case hi2x3 => (simp only [List.getElem?_toArray, List.getElem?_cons_succ, List.getElem?_cons_zero]; exact rfl)
            case hf2x3 => kernel_rfl
            case hr2x3 => kernel_rfl
            case hy2x3 => (refine Or.inl ⟨by rfl, ?_⟩; intro w hSw; (try dsimp only at hSw); go_simp; try with_reducible rfl)
            simp only [put_mk, List.set_cons_succ, List.set_cons_zero]
            refine wpAnyH_take (i := 4) (oi := ?o2x4) (v := ?v2x4) ?hi2x4 (by kernel_rfl) ?hf2x4 ?hr2x4 (fun _ _ _ h => h) ?hy2x4 (by assumption) ?rest2x4
            case hi2x4 => (simp only [List.getElem?_toArray, List.getElem?_cons_succ, List.getElem?_cons_zero]; exact rfl)
            case hf2x4 => kernel_rfl
            case hr2x4 => kernel_rfl
            case hy2x4 => (refine Or.inl ⟨by rfl, ?_⟩; intro w hSw; (try dsimp only at hSw); go_simp; try with_reducible rfl)
            simp only [put_mk, List.set_cons_succ, List.set_cons_zero]
            refine wpAnyH_take (i := 5) (oi := ?o2x5) (v := ?v2x5) ?hi2x5 (by kernel_rfl) ?hf2x5 ?hr2x5 (fun _ _ _ h => h) ?hy2x5 (by assumption) ?rest2x5
            case hi2x5 => (simp only [List.getElem?_toArray, List.getElem?_cons_succ, List.getElem?_cons_zero]; exact rfl)
            case hf2x5 => kernel_rfl
            case hr2x5 => kernel_rfl
            case hy2x5 => (refine Or.inl ⟨by rfl, ?_⟩; intro w hSw; (try dsimp only at hSw); go_simp; try with_reducible rfl)
            simp only [put_mk, List.set_cons_succ, List.set_cons_zero]
            refine wpAnyH_ready (rs := [6]) (by kernel_rfl) (by simp) ?_
            refine AllReadyH.cons (o := ?o2x6) ?hi2x6 (fun K hK => ?_) AllReadyH.nil
            case hi2x6 => (simp only [List.getElem?_toArray, List.getElem?_cons_succ, List.getElem?_cons_zero]; exact rfl)
            go_simp
            go_at_call 7
            refine ((HPq _ (by repeat (first | exact Ext.refl _ | assumption | refine Ext.setCell ?_ (by first | (simp; done) | (simp; omega)) _ | refine Ext.drewN ?_ _ | refine Ext.alloc ?_ _ | refine Ext.drew ?_ | refine Ext.trans ?_ (by assumption)))).out).mono ?_
            rintro e wp ⟨rfl, hxp⟩
            refine hK.out _ _ ?_ (fun hHeld => ?_)
            · (repeat (first | exact Ext.refl _ | assumption | refine Ext.setCell ?_ (by first | (simp; done) | (simp; omega)) _ | refine Ext.drewN ?_ _ | refine Ext.alloc ?_ _ | refine Ext.drew ?_ | refine Ext.trans ?_ (by assumption)))
            clear hK K
            refine wpAnyH_take (i := 7) (oi := ?o2x7) (v := ?v2x7) ?hi2x7 (by kernel_rfl) ?hf2x7 ?hr2x7 (fun _ _ _ h => h) ?hy2x7 (by assumption) ?rest2x7
            case hi2x7 => (simp only [List.getElem?_toArray, List.getElem?_cons_succ, List.getElem?_cons_zero]; exact rfl)
            case hf2x7 => kernel_rfl
            case hr2x7 => kernel_rfl
            case hy2x7 => (refine Or.inl ⟨by rfl, ?_⟩; intro w hSw; (try dsimp only at hSw); go_simp; try with_reducible rfl)
            simp only [put_mk, List.set_cons_succ, List.set_cons_zero]
            refine wpAnyH_take (i := 8) (oi := ?o2x8) (v := ?v2x8) ?hi2x8 (by kernel_rfl) ?hf2x8 ?hr2x8 (fun _ _ _ h => h) ?hy2x8 (by assumption) ?rest2x8
            case hi2x8 => (simp only [List.getElem?_toArray, List.getElem?_cons_succ, List.getElem?_cons_zero]; exact rfl)
            case hf2x8 => kernel_rfl
            case hr2x8 => kernel_rfl
            case hy2x8 => (refine Or.inl ⟨by rfl, ?_⟩; intro w hSw; (try dsimp only at hSw); go_simp; try with_reducible rfl)
            simp only [put_mk, List.set_cons_succ, List.set_cons_zero]
            refine wpAnyH_take (i := 9) (oi := ?o2x9) (v := ?v2x9) ?hi2x9 (by kernel_rfl) ?hf2x9 ?hr2x9 (fun _ _ _ h => h) ?hy2x9 (by assumption) ?rest2x9
            case hi2x9 => (simp only [List.getElem?_toArray, List.getElem?_cons_succ, List.getElem?_cons_zero]; exact rfl)
            case hf2x9 => kernel_rfl
            case hr2x9 => kernel_rfl
            case hy2x9 => (refine Or.inl ⟨by rfl, ?_⟩; intro w hSw; (try dsimp only at hSw); go_simp; try with_reducible rfl)
            simp only [put_mk, List.set_cons_succ, List.set_cons_zero]
            refine wpAnyH_take (i := 10) (oi := ?o2x10) (v := ?v2x10) ?hi2x10 (by kernel_rfl) ?hf2x10 ?hr2x10 (fun _ _ _ h => h) ?hy2x10 (by assumption) ?rest2x10
            case hi2x10 => (simp only [List.getElem?_toArray, List.getElem?_cons_succ, List.getElem?_cons_zero]; exact rfl)
            case hf2x10 => kernel_rfl
            case hr2x10 => kernel_rfl
            case hy2x10 => (refine Or.inl ⟨by rfl, ?_⟩; intro w hSw; (try dsimp only at hSw); go_simp; try with_reducible rfl)
            simp only [put_mk, List.set_cons_succ, List.set_cons_zero]
            refine wpAnyH_take (i := 11) (oi := ?o2x11) (v := ?v2x11) ?hi2x11 (by kernel_rfl) ?hf2x11 ?hr2x11 (fun _ _ _ h => h) ?hy2x11 (by assumption) ?rest2x11
            case hi2x11 => (simp only [List.getElem?_toArray, List.getElem?_cons_succ, List.getElem?_cons_zero]; exact rfl)
            case hf2x11 => kernel_rfl
            case hr2x11 => kernel_rfl
            case hy2x11 => (refine Or.inl ⟨by rfl, ?_⟩; intro w hSw; (try dsimp only at hSw); go_simp; try with_reducible rfl)
            simp only [put_mk, List.set_cons_succ, List.set_cons_zero]
            refine wpAnyH_done (by kernel_rfl) ?_ _
            refine NoPanic.normal ?_
            go_upto_region 21 with fail
            have hx5 := hx.trans hHeld
            clear f0 f1 f2 f3 f4 r0 r1 r2 r3 r4 r5 HPq hx
            go_wp2
            go_roundw
            case rel => exact ⟨i + 1, Hiq.out, (by first | rfl | go_num), hx5⟩
            case measure => first | exact nx_tw Hiq.out hq6 | exact nxt_tw Hiq.out
          · obtain rfl : i = q := by omega
            go_wp2
            go_ret
            exact ⟨rfl, hx0.trans (Hxw6.out.trans hx)⟩

      · have hv2 := hG2.vv
        injection hv2 with a1 a2 a3
        subst a1 a3
        have hv3 := hG3.vv
        injection hv3 with b1 b2 b3
        subst b1 b3
        obtain ⟨u, hu, hub, hul⟩ := WayG.by_third HE.out HWn.out HN.out HG.out hG2 hG3
        have hlt := lt_no (bd_Fin hub (by omega)) (bd_Fin (HG.out.pr.ob t Ht.out).1 (by omega)) hul
        have hlt2 : ¬ FloatKind.f32.format.order u (P t) = some .lt := ne_of_beq hlt
        have hpos2 : 0 < (ptv ps2).length := by rw [ptv_length]; have := hG2.l1; omega
        obtain ⟨ad2, rfl, _, _⟩ := hG2.rd (by intro e; rw [e] at hpos2; simp at hpos2)
        have hpos3 : 0 < (ptv ps3).length := by rw [ptv_length]; have := hG3.l1; omega
        obtain ⟨ad3, rfl, _, _⟩ := hG3.rd (by intro e; rw [e] at hpos3; simp at hpos3)
        have HRd2 : Hid (Rd w6 (some ad2) (ptv ps2)) := hG2.rd.ext hx6
        have HRd3 : Hid (Rd w6 (some ad3) (ptv ps3)) := hG3.rd
        have H2 := hidA (show 1 ≤ q2 ∧ q2 ≤ 65536 ∧ q2 ≤ cap2 by have := hG2.l1; have := hG2.lN; have := hG2.lc; omega)
        have H3 := hidA (show 1 ≤ q3 ∧ q3 ≤ 65536 ∧ q3 ≤ cap3 by have := hG3.l1; have := hG3.lN; have := hG3.lc; omega)
        have Ha2 := hidA a2
        have Hb2 := hidA b2
        have HClq := fun (w' : World) (h : Ext w6 w') => hidA (show Calls Try.prog 8 #[.slice (some ad2) q2 cap2] w' fun e w'' => ∃ v, e = .returned v ∧ w''.ownsRow w6.heap.size 32 2 v q2 (ptv ps2) ∧ Ext w' w'' from
          (Clone_pt ad2 q2 cap2 ps2 w' Ha2.out.symm (HRd2.out.ext h) H2.out.1 (by have := H2.out; omega)).mono (by
            rintro e w'' ⟨v, rfl, h1, h2⟩
            exact ⟨v, rfl, Own.low2 h1 h.size, h2⟩))
        have HMem := hidA (fun (p : Int × Int) (hp : p ∈ ps2 ++ ps3.drop 1) => show ∃ k, k < N ∧ p = cpt X Y Wn k from by
          rcases List.mem_append.1 hp with h | h
          · exact hG2.mem p h
          · exact hG3.mem p (List.mem_of_mem_drop h))
        have HPk := hidA (fun (w' : World) (h : Ext w6 w') (B9 : Option Addr) (q9 c9 : Nat) (h1 : (ps2 ++ ps3.drop 1).length = q9) (h2 : Rd w' B9 (ptv (ps2 ++ ps3.drop 1))) (h3 : q9 ≤ c9) (h4 : 1 ≤ q9) => HPU w' (hx0.trans (Hxw6.out.trans h)) B9 q9 c9 (ps2 ++ ps3.drop 1) h1 h2 h3 h4 HMem.out u (by rw [← h1]; exact hu))
        have ci1 : (1 : Int) ≤ q3 := by have := H3.out; omega
        have ci2 : (q3 : Int) ≤ cap3 := by have := H3.out; omega
        clear hu hub hul hpos2 hpos3 hG2 hG3 hx6 HPU a2 b2
        have f0 : ∀ w', Ext w6 w' → w'.cell? ⟨hf, 0, none⟩ = some (.int .i64 X) := fun w' h => (kF.ext (Hxw6.out.trans h)).cell 0
        have f1 : ∀ w', Ext w6 w' → w'.cell? ⟨hf, 1, none⟩ = some (.int .i64 Y) := fun w' h => (kF.ext (Hxw6.out.trans h)).cell 1
        have f2 : ∀ w', Ext w6 w' → w'.cell? ⟨hf, 2, none⟩ = some (.int .i64 (Wn : Int)) := fun w' h => (kF.ext (Hxw6.out.trans h)).cell 2
        have f3 : ∀ w', Ext w6 w' → w'.cell? ⟨hf, 3, none⟩ = some (.int .i64 (Hn : Int)) := fun w' h => (kF.ext (Hxw6.out.trans h)).cell 3
        have f4 : ∀ w', Ext w6 w' → w'.cell? ⟨hf, 4, none⟩ = some (.slice A N c) := fun w' h => (kF.ext (Hxw6.out.trans h)).cell 4
        have r0 : ∀ w', Ext w6 w' → w'.cell? ⟨hr', 0, none⟩ = some (.float .f32 R.gr) := fun w' h => (kR.ext (Hxw6.out.trans h)).cell 0
        have r1 : ∀ w', Ext w6 w' → w'.cell? ⟨hr', 1, none⟩ = some (.float .f32 R.wt) := fun w' h => (kR.ext (Hxw6.out.trans h)).cell 1
        have r2 : ∀ w', Ext w6 w' → w'.cell? ⟨hr', 2, none⟩ = some (.float .f32 R.br) := fun w' h => (kR.ext (Hxw6.out.trans h)).cell 2
        have r3 : ∀ w', Ext w6 w' → w'.cell? ⟨hr', 3, none⟩ = some (.float .f32 R.de) := fun w' h => (kR.ext (Hxw6.out.trans h)).cell 3
        have r4 : ∀ w', Ext w6 w' → w'.cell? ⟨hr', 4, none⟩ = some (.int .i64 (R.sp : Int)) := fun w' h => (kR.ext (Hxw6.out.trans h)).cell 4
        have r5 : ∀ w', Ext w6 w' → w'.cell? ⟨hr', 5, none⟩ = some (.slice C m cc) := fun w' h => (kR.ext (Hxw6.out.trans h)).cell 5

        by_cases hc1 : cap3 = 1
        · subst hc1
          obtain rfl : q3 = 1 := by have := H3.out; omega
          have hd3 : ps3.drop 1 = [] := List.drop_of_length_le (by have := Hb2.out; omega)
          have HP4 := fun (w' : World) (h : Ext w6 w') (B9 : Option Addr) (c9 : Nat) (h2 : Rd w' B9 (ptv ps2 ++ [])) (h3 : q2 + 0 ≤ c9) => HPk.out w' h B9 (q2 + 0) c9 (by rw [hd3, List.append_nil, Nat.add_zero]; exact Ha2.out.symm) (by rw [hd3, List.append_nil]; rw [List.append_nil] at h2; exact h2) h3 (by have := H2.out; omega)
          have hmx := hidA (show q2 + 0 ≤ maxLen by unfold maxLen; have := H2.out; omega)
          have hmb := hidA (show (q2 + 0) * 16 ≤ 140737488355328 by have := H2.out; omega)
          go_upto_region 14 with fail
          refine wp_region_noPanic ?_
          refine wp_region_held_drew (S := fun w' => Ext w6 w') (by kernel_rfl) ?_ (fun hHeld => ?_)
          · (first | exact hx9 | (repeat (first | exact Ext.refl _ | assumption | refine Ext.setCell ?_ (by first | (simp; done) | (simp; omega)) _ | refine Ext.drewN ?_ _ | refine Ext.alloc ?_ _ | refine Ext.drew ?_ | refine Ext.trans ?_ (by assumption))))
          refine wpAnyH_take (i := 0) (oi := ?o3x0) (v := ?v3x0) ?hi3x0 (by kernel_rfl) ?hf3x0 ?hr3x0 (fun _ _ _ h => h) ?hy3x0 (by assumption) ?rest3x0
          case hi3x0 => (simp only [List.getElem?_toArray, List.getElem?_cons_zero]; exact rfl)
          case hf3x0 => kernel_rfl
          case hr3x0 => kernel_rfl
          case hy3x0 => (refine Or.inl ⟨by rfl, ?_⟩; intro w hSw; (try dsimp only at hSw); go_simp; try with_reducible rfl)
          simp only [put_mk, List.set_cons_succ, List.set_cons_zero]
          refine wpAnyH_take (i := 1) (oi := ?o3x1) (v := ?v3x1) ?hi3x1 (by kernel_rfl) ?hf3x1 ?hr3x1 (fun _ _ _ h => h) ?hy3x1 (by assumption) ?rest3x1
          case hi3x1 => (simp only [List.getElem?_toArray, List.getElem?_cons_succ, List.getElem?_cons_zero]; exact rfl)
          case hf3x1 => kernel_rfl
          case hr3x1 => kernel_rfl
          case hy3x1 => (refine Or.inl ⟨by rfl, ?_⟩; intro w hSw; (try dsimp only at hSw); go_simp; try with_reducible rfl)
          simp only [put_mk, List.set_cons_succ, List.set_cons_zero]
          refine wpAnyH_take (i := 2) (oi := ?o3x2) (v := ?v3x2) ?hi3x2 (by kernel_rfl) ?hf3x2 ?hr3x2 (fun _ _ _ h => h) ?hy3x2 (by assumption) ?rest3x2
          case hi3x2 => (simp only [List.getElem?_toArray, List.getElem?_cons_succ, List.getElem?_cons_zero]; exact rfl)
          case hf3x2 => kernel_rfl
          case hr3x2 => kernel_rfl
          case hy3x2 => (refine Or.inl ⟨by rfl, ?_⟩; intro w hSw; (try dsimp only at hSw); go_simp; try with_reducible rfl)
          simp only [put_mk, List.set_cons_succ, List.set_cons_zero]
          refine wpAnyH_take (i := 4) (oi := ?o3x4) (v := ?v3x4) ?hi3x4 (by kernel_rfl) ?hf3x4 ?hr3x4 (fun _ _ _ h => h) ?hy3x4 (by assumption) ?rest3x4
          case hi3x4 => (simp only [List.getElem?_toArray, List.getElem?_cons_succ, List.getElem?_cons_zero]; exact rfl)
          case hf3x4 => kernel_rfl
          case hr3x4 => kernel_rfl
          case hy3x4 => (refine Or.inl ⟨by rfl, ?_⟩; intro w hSw; (try dsimp only at hSw); go_simp; try with_reducible rfl)
          simp only [put_mk, List.set_cons_succ, List.set_cons_zero]
          refine wpAnyH_take (i := 5) (oi := ?o3x5) (v := ?v3x5) ?hi3x5 (by kernel_rfl) ?hf3x5 ?hr3x5 (fun _ _ _ h => h) ?hy3x5 (by assumption) ?rest3x5
          case hi3x5 => (simp only [List.getElem?_toArray, List.getElem?_cons_succ, List.getElem?_cons_zero]; exact rfl)
          case hf3x5 => kernel_rfl
          case hr3x5 => kernel_rfl
          case hy3x5 => (refine Or.inl ⟨by rfl, ?_⟩; intro w hSw; (try dsimp only at hSw); go_simp; try with_reducible rfl)
          simp only [put_mk, List.set_cons_succ, List.set_cons_zero]
          refine wpAnyH_ready (rs := [3]) (by kernel_rfl) (by simp) ?_
          refine AllReadyH.cons (o := ?o3x3) ?hi3x3 (fun K hK => ?_) AllReadyH.nil
          case hi3x3 => (simp only [List.getElem?_toArray, List.getElem?_cons_succ, List.getElem?_cons_zero]; exact rfl)
          go_simp
          go_at_call 8
          refine ((HClq _ hHeld).out).mono ?_
          rintro e wc ⟨vc, rfl, hOc, hxc⟩
          refine hK.out _ _ ?_ (fun hHeld => ?_)
          · (first | exact hx9 | (repeat (first | exact Ext.refl _ | assumption | refine Ext.setCell ?_ (by first | (simp; done) | (simp; omega)) _ | refine Ext.drewN ?_ _ | refine Ext.alloc ?_ _ | refine Ext.drew ?_ | refine Ext.trans ?_ (by assumption))))
          clear hK K
          refine wpAnyH_ready (rs := [6]) (by kernel_rfl) (by simp) ?_
          refine AllReadyH.cons (o := ?o3x6) ?hi3x6 (fun K hK => ?_) AllReadyH.nil
          case hi3x6 => (simp only [List.getElem?_toArray, List.getElem?_cons_succ, List.getElem?_cons_zero]; exact rfl)
          refine step_append_own (by rfl) (.tmp 127) (.tmp 129) 34 (by rfl) w6.heap.size 32 ti (.agg #[.int .i64 0, .int .i64 0]) 2 16 Try.underlying34 hi0 hz0 hz1 hz2 (by rfl) (by decide) _ q2 (ptv ps2) (by rfl) (Own.ext2 hOc (by repeat (first | exact Ext.refl _ | assumption | refine Ext.setCell ?_ (by first | (simp; done) | (simp; omega)) _ | refine Ext.drewN ?_ _ | refine Ext.alloc ?_ _ | refine Ext.drew ?_ | refine Ext.trans ?_ (by assumption)))) _ (0) _ [] (by rfl) (by rfl) (fun j u h => by simp at h) (fun u h => by simp at h) hmx.out hmb.out (Ext.size (by repeat (first | exact Ext.refl _ | assumption | refine Ext.setCell ?_ (by first | (simp; done) | (simp; omega)) _ | refine Ext.drewN ?_ _ | refine Ext.alloc ?_ _ | refine Ext.drew ?_ | refine Ext.trans ?_ (by assumption)))) ?_
          intro v9 w9 hown9 hgrow9
          have hx9 : Ext w6 w9 := hHeld.grown hgrow9 (fun b hb => (World.ownsRow.lt hOc b hb).1)
          obtain ⟨B9, c9, hv9, hr9, hc9⟩ := own_formL hown9
          subst hv9
          refine hK.out _ _ ?_ (fun hHeld => ?_)
          · (first | exact hx9 | (repeat (first | exact Ext.refl _ | assumption | refine Ext.setCell ?_ (by first | (simp; done) | (simp; omega)) _ | refine Ext.drewN ?_ _ | refine Ext.alloc ?_ _ | refine Ext.drew ?_ | refine Ext.trans ?_ (by assumption))))
          clear hK K
          simp only [put_mk, List.set_cons_succ, List.set_cons_zero]
          refine wpAnyH_ready (rs := [7]) (by kernel_rfl) (by simp) ?_
          refine AllReadyH.cons (o := ?o3x7) ?hi3x7 (fun K hK => ?_) AllReadyH.nil
          case hi3x7 => (simp only [List.getElem?_toArray, List.getElem?_cons_succ, List.getElem?_cons_zero]; exact rfl)
          go_simp
          go_at_call 7
          refine ((HP4 _ (hHeld) B9 c9 (hr9.ext (by first | exact Ext.refl _ | (repeat (first | exact Ext.refl _ | assumption | refine Ext.setCell ?_ (by first | (simp; done) | (simp; omega)) _ | refine Ext.drewN ?_ _ | refine Ext.alloc ?_ _ | refine Ext.drew ?_ | refine Ext.trans ?_ (by assumption))))) hc9).out).mono ?_
          rintro e wp ⟨cv, gv, rfl, hxp, hcg⟩
          refine hK.out _ _ ?_ (fun hHeld => ?_)
          · (first | exact hx9 | (repeat (first | exact Ext.refl _ | assumption | refine Ext.setCell ?_ (by first | (simp; done) | (simp; omega)) _ | refine Ext.drewN ?_ _ | refine Ext.alloc ?_ _ | refine Ext.drew ?_ | refine Ext.trans ?_ (by assumption))))
          clear hK K
          refine wpAnyH_take (i := 8) (oi := ?o3x8) (v := ?v3x8) ?hi3x8 (by kernel_rfl) ?hf3x8 ?hr3x8 (fun _ _ _ h => h) ?hy3x8 (by assumption) ?rest3x8
          case hi3x8 => (simp only [List.getElem?_toArray, List.getElem?_cons_succ, List.getElem?_cons_zero]; exact rfl)
          case hf3x8 => kernel_rfl
          case hr3x8 => kernel_rfl
          case hy3x8 => (refine Or.inl ⟨by rfl, ?_⟩; intro w hSw; (try dsimp only at hSw); go_simp; try with_reducible rfl)
          simp only [put_mk, List.set_cons_succ, List.set_cons_zero]
          refine wpAnyH_take (i := 9) (oi := ?o3x9) (v := ?v3x9) ?hi3x9 (by kernel_rfl) ?hf3x9 ?hr3x9 (fun _ _ _ h => h) ?hy3x9 (by assumption) ?rest3x9
          case hi3x9 => (simp only [List.getElem?_toArray, List.getElem?_cons_succ, List.getElem?_cons_zero]; exact rfl)
          case hf3x9 => kernel_rfl
          case hr3x9 => kernel_rfl
          case hy3x9 => (refine Or.inl ⟨by rfl, ?_⟩; intro w hSw; (try dsimp only at hSw); go_simp; try with_reducible rfl)
          simp only [put_mk, List.set_cons_succ, List.set_cons_zero]
          refine wpAnyH_take (i := 10) (oi := ?o3x10) (v := ?v3x10) ?hi3x10 (by kernel_rfl) ?hf3x10 ?hr3x10 (fun _ _ _ h => h) ?hy3x10 (by assumption) ?rest3x10
          case hi3x10 => (simp only [List.getElem?_toArray, List.getElem?_cons_succ, List.getElem?_cons_zero]; exact rfl)
          case hf3x10 => kernel_rfl
          case hr3x10 => kernel_rfl
          case hy3x10 => (refine Or.inl ⟨by rfl, ?_⟩; intro w hSw; (try dsimp only at hSw); go_simp; try with_reducible rfl)
          simp only [put_mk, List.set_cons_succ, List.set_cons_zero]
          refine wpAnyH_take (i := 11) (oi := ?o3x11) (v := ?v3x11) ?hi3x11 (by kernel_rfl) ?hf3x11 ?hr3x11 (fun _ _ _ h => h) ?hy3x11 (by assumption) ?rest3x11
          case hi3x11 => (simp only [List.getElem?_toArray, List.getElem?_cons_succ, List.getElem?_cons_zero]; exact rfl)
          case hf3x11 => kernel_rfl
          case hr3x11 => kernel_rfl
          case hy3x11 => (refine Or.inl ⟨by rfl, ?_⟩; intro w hSw; (try dsimp only at hSw); go_simp; try with_reducible rfl)
          simp only [put_mk, List.set_cons_succ, List.set_cons_zero]
          refine wpAnyH_take (i := 12) (oi := ?o3x12) (v := ?v3x12) ?hi3x12 (by kernel_rfl) ?hf3x12 ?hr3x12 (fun _ _ _ h => h) ?hy3x12 (by assumption) ?rest3x12
          case hi3x12 => (simp only [List.getElem?_toArray, List.getElem?_cons_succ, List.getElem?_cons_zero]; exact rfl)
          case hf3x12 => kernel_rfl
          case hr3x12 => kernel_rfl
          case hy3x12 => (refine Or.inl ⟨by rfl, ?_⟩; intro w hSw; (try dsimp only at hSw); go_simp; try with_reducible rfl)
          simp only [put_mk, List.set_cons_succ, List.set_cons_zero]
          refine wpAnyH_done (by kernel_rfl) ?_ _
          refine NoPanic.normal ?_
          go_upto_region 15 with fail
          have Hxwp := hidA (Hxw6.out.trans hHeld)
          have Hx2wp := hidA (Hx2w6.out.trans hHeld)
          clear f0 f1 f2 f3 f4 r0 r1 r2 r3 r4 r5 hown9 hgrow9 hr9 hc9 hx9 hmx hmb HP4 HPk HClq HMem hd3 ci1 ci2 hOc
          rcases hcg with rfl | ⟨rfl, rfl⟩
          · clear hHeld
            go_upto_region 18 with fail
            go_loopw [147] (fun s147 wr => ∃ i : Nat, i ≤ q ∧ s147 = .int .i64 i ∧ Ext wp wr) (fun s147 _ => q - (intOf s147).toNat)
            case atStart => exact ⟨0, Nat.zero_le _, rfl, Ext.refl _⟩
            case round =>
              obtain ⟨i, hi, rfl, hx⟩ := hrel
              by_cases hiq : i < q
              · have Hiq := hidA hiq
                have i0 : (0 : Int) ≤ i := by omega
                have i1 : (i : Int) < q := by omega
                have i2 : (0 : Int) ≤ ((i + 1 : Nat) : Int) := by omega
                have i3 : ((i + 1 : Nat) : Int) ≤ cap := by have := Hcap.out; omega
                have i4 : (0 : Int) ≤ (i : Int) + 1 := by omega
                have i5 : (i : Int) + 1 ≤ cap := by have := Hcap.out; omega
                have iw : IntKind.i64.wrap ((i : Int) + 1) = ((i + 1 : Nat) : Int) := by rw [IntWalk.i64_in _ ⟨by omega, by omega⟩]; omega
                have iw2 : wrap64 ((i : Int) + 1) = ((i + 1 : Nat) : Int) := by rw [IntWalk.wrap64_in _ ⟨by omega, by omega⟩]; omega
                obtain ⟨s, hs⟩ := HPre.out i hiq
                have hgt := HGt.out i s hiq hs
                have hgt2 : ¬ FloatKind.f32.format.order s (P t) = some .gt := ne_of_beq hgt
                have HPq := fun (w' : World) (h : Ext wr w') => HPi i s hiq hs w' (hx0.trans (Hxwp.out.trans (hx.trans h))) (Hx2wp.out.trans (hx.trans h))
                have Hxwr := hidA (Hxwp.out.trans hx)
                have f0 : ∀ w', Ext wr w' → w'.cell? ⟨hf, 0, none⟩ = some (.int .i64 X) := fun w' h => (kF.ext (Hxwr.out.trans h)).cell 0
                have f1 : ∀ w', Ext wr w' → w'.cell? ⟨hf, 1, none⟩ = some (.int .i64 Y) := fun w' h => (kF.ext (Hxwr.out.trans h)).cell 1
                have f2 : ∀ w', Ext wr w' → w'.cell? ⟨hf, 2, none⟩ = some (.int .i64 (Wn : Int)) := fun w' h => (kF.ext (Hxwr.out.trans h)).cell 2
                have f3 : ∀ w', Ext wr w' → w'.cell? ⟨hf, 3, none⟩ = some (.int .i64 (Hn : Int)) := fun w' h => (kF.ext (Hxwr.out.trans h)).cell 3
                have f4 : ∀ w', Ext wr w' → w'.cell? ⟨hf, 4, none⟩ = some (.slice A N c) := fun w' h => (kF.ext (Hxwr.out.trans h)).cell 4
                have r0 : ∀ w', Ext wr w' → w'.cell? ⟨hr', 0, none⟩ = some (.float .f32 R.gr) := fun w' h => (kR.ext (Hxwr.out.trans h)).cell 0
                have r1 : ∀ w', Ext wr w' → w'.cell? ⟨hr', 1, none⟩ = some (.float .f32 R.wt) := fun w' h => (kR.ext (Hxwr.out.trans h)).cell 1
                have r2 : ∀ w', Ext wr w' → w'.cell? ⟨hr', 2, none⟩ = some (.float .f32 R.br) := fun w' h => (kR.ext (Hxwr.out.trans h)).cell 2
                have r3 : ∀ w', Ext wr w' → w'.cell? ⟨hr', 3, none⟩ = some (.float .f32 R.de) := fun w' h => (kR.ext (Hxwr.out.trans h)).cell 3
                have r4 : ∀ w', Ext wr w' → w'.cell? ⟨hr', 4, none⟩ = some (.int .i64 (R.sp : Int)) := fun w' h => (kR.ext (Hxwr.out.trans h)).cell 4
                have r5 : ∀ w', Ext wr w' → w'.cell? ⟨hr', 5, none⟩ = some (.slice C m cc) := fun w' h => (kR.ext (Hxwr.out.trans h)).cell 5

                clear hs hi hiq
                go_upto_region 20 with fail
                refine wp_region_noPanic ?_
                refine wp_region_held_drew (S := fun w' => Ext wr w') (by kernel_rfl) ?_ (fun hHeld => ?_)
                · (repeat (first | exact Ext.refl _ | assumption | refine Ext.setCell ?_ (by first | (simp; done) | (simp; omega)) _ | refine Ext.drewN ?_ _ | refine Ext.alloc ?_ _ | refine Ext.drew ?_ | refine Ext.trans ?_ (by assumption)))
                refine wpAnyH_take (i := 0) (oi := ?o4x0) (v := ?v4x0) ?hi4x0 (by kernel_rfl) ?hf4x0 ?hr4x0 (fun _ _ _ h => h) ?hy4x0 (by assumption) ?rest4x0
                case hi4x0 => (simp only [List.getElem?_toArray, List.getElem?_cons_zero]; exact rfl)
                case hf4x0 => kernel_rfl
                case hr4x0 => kernel_rfl
                case hy4x0 => (refine Or.inl ⟨by rfl, ?_⟩; intro w hSw; (try dsimp only at hSw); go_simp; try with_reducible rfl)
                simp only [put_mk, List.set_cons_succ, List.set_cons_zero]
                refine wpAnyH_take (i := 1) (oi := ?o4x1) (v := ?v4x1) ?hi4x1 (by kernel_rfl) ?hf4x1 ?hr4x1 (fun _ _ _ h => h) ?hy4x1 (by assumption) ?rest4x1
                case hi4x1 => (simp only [List.getElem?_toArray, List.getElem?_cons_succ, List.getElem?_cons_zero]; exact rfl)
                case hf4x1 => kernel_rfl
                case hr4x1 => kernel_rfl
                case hy4x1 => (refine Or.inl ⟨by rfl, ?_⟩; intro w hSw; (try dsimp only at hSw); go_simp; try with_reducible rfl)
                simp only [put_mk, List.set_cons_succ, List.set_cons_zero]
                refine wpAnyH_take (i := 2) (oi := ?o4x2) (v := ?v4x2) ?hi4x2 (by kernel_rfl) ?hf4x2 ?hr4x2 (fun _ _ _ h => h) ?hy4x2 (by assumption) ?rest4x2
                case hi4x2 => (simp only [List.getElem?_toArray, List.getElem?_cons_succ, List.getElem?_cons_zero]; exact rfl)
                case hf4x2 => kernel_rfl
                case hr4x2 => kernel_rfl
                case hy4x2 => (refine Or.inl ⟨by rfl, ?_⟩; intro w hSw; (try dsimp only at hSw); go_simp; try with_reducible rfl)
                simp only [put_mk, List.set_cons_succ, List.set_cons_zero]
                refine wpAnyH_take (i := 3) (oi := ?o4x3) (v := ?v4x3) ?hi4x3 (by kernel_rfl) ?hf4x3 ?hr4x3 (fun _ _ _ h => h) ?hy4x3 (by assumption) ?rest4x3
                case hi4x3 => (simp only [List.getElem?_toArray, List.getElem?_cons_succ, List.getElem?_cons_zero]; exact rfl)
                case hf4x3 => kernel_rfl
                case hr4x3 => kernel_rfl
                case hy4x3 => (refine Or.inl ⟨by rfl, ?_⟩; intro w hSw; (try dsimp only at hSw); go_simp; try with_reducible rfl)
                simp only [put_mk, List.set_cons_succ, List.set_cons_zero]
                refine wpAnyH_take (i := 4) (oi := ?o4x4) (v := ?v4x4) ?hi4x4 (by kernel_rfl) ?hf4x4 ?hr4x4 (fun _ _ _ h => h) ?hy4x4 (by assumption) ?rest4x4
                case hi4x4 => (simp only [List.getElem?_toArray, List.getElem?_cons_succ, List.getElem?_cons_zero]; exact rfl)
                case hf4x4 => kernel_rfl
                case hr4x4 => kernel_rfl
                case hy4x4 => (refine Or.inl ⟨by rfl, ?_⟩; intro w hSw; (try dsimp only at hSw); go_simp; try with_reducible rfl)
                simp only [put_mk, List.set_cons_succ, List.set_cons_zero]
                refine wpAnyH_take (i := 5) (oi := ?o4x5) (v := ?v4x5) ?hi4x5 (by kernel_rfl) ?hf4x5 ?hr4x5 (fun _ _ _ h => h) ?hy4x5 (by assumption) ?rest4x5
                case hi4x5 => (simp only [List.getElem?_toArray, List.getElem?_cons_succ, List.getElem?_cons_zero]; exact rfl)
                case hf4x5 => kernel_rfl
                case hr4x5 => kernel_rfl
                case hy4x5 => (refine Or.inl ⟨by rfl, ?_⟩; intro w hSw; (try dsimp only at hSw); go_simp; try with_reducible rfl)
                simp only [put_mk, List.set_cons_succ, List.set_cons_zero]
                refine wpAnyH_ready (rs := [6]) (by kernel_rfl) (by simp) ?_
                refine AllReadyH.cons (o := ?o4x6) ?hi4x6 (fun K hK => ?_) AllReadyH.nil
                case hi4x6 => (simp only [List.getElem?_toArray, List.getElem?_cons_succ, List.getElem?_cons_zero]; exact rfl)
                go_simp
                go_at_call 7
                refine ((HPq _ (by repeat (first | exact Ext.refl _ | assumption | refine Ext.setCell ?_ (by first | (simp; done) | (simp; omega)) _ | refine Ext.drewN ?_ _ | refine Ext.alloc ?_ _ | refine Ext.drew ?_ | refine Ext.trans ?_ (by assumption)))).out).mono ?_
                rintro e wp ⟨rfl, hxp⟩
                refine hK.out _ _ ?_ (fun hHeld => ?_)
                · (repeat (first | exact Ext.refl _ | assumption | refine Ext.setCell ?_ (by first | (simp; done) | (simp; omega)) _ | refine Ext.drewN ?_ _ | refine Ext.alloc ?_ _ | refine Ext.drew ?_ | refine Ext.trans ?_ (by assumption)))
                clear hK K
                refine wpAnyH_take (i := 7) (oi := ?o4x7) (v := ?v4x7) ?hi4x7 (by kernel_rfl) ?hf4x7 ?hr4x7 (fun _ _ _ h => h) ?hy4x7 (by assumption) ?rest4x7
                case hi4x7 => (simp only [List.getElem?_toArray, List.getElem?_cons_succ, List.getElem?_cons_zero]; exact rfl)
                case hf4x7 => kernel_rfl
                case hr4x7 => kernel_rfl
                case hy4x7 => (refine Or.inl ⟨by rfl, ?_⟩; intro w hSw; (try dsimp only at hSw); go_simp; try with_reducible rfl)
                simp only [put_mk, List.set_cons_succ, List.set_cons_zero]
                refine wpAnyH_take (i := 8) (oi := ?o4x8) (v := ?v4x8) ?hi4x8 (by kernel_rfl) ?hf4x8 ?hr4x8 (fun _ _ _ h => h) ?hy4x8 (by assumption) ?rest4x8
                case hi4x8 => (simp only [List.getElem?_toArray, List.getElem?_cons_succ, List.getElem?_cons_zero]; exact rfl)
                case hf4x8 => kernel_rfl
                case hr4x8 => kernel_rfl
                case hy4x8 => (refine Or.inl ⟨by rfl, ?_⟩; intro w hSw; (try dsimp only at hSw); go_simp; try with_reducible rfl)
                simp only [put_mk, List.set_cons_succ, List.set_cons_zero]
                refine wpAnyH_take (i := 9) (oi := ?o4x9) (v := ?v4x9) ?hi4x9 (by kernel_rfl) ?hf4x9 ?hr4x9 (fun _ _ _ h => h) ?hy4x9 (by assumption) ?rest4x9
                case hi4x9 => (simp only [List.getElem?_toArray, List.getElem?_cons_succ, List.getElem?_cons_zero]; exact rfl)
                case hf4x9 => kernel_rfl
                case hr4x9 => kernel_rfl
                case hy4x9 => (refine Or.inl ⟨by rfl, ?_⟩; intro w hSw; (try dsimp only at hSw); go_simp; try with_reducible rfl)
                simp only [put_mk, List.set_cons_succ, List.set_cons_zero]
                refine wpAnyH_take (i := 10) (oi := ?o4x10) (v := ?v4x10) ?hi4x10 (by kernel_rfl) ?hf4x10 ?hr4x10 (fun _ _ _ h => h) ?hy4x10 (by assumption) ?rest4x10
                case hi4x10 => (simp only [List.getElem?_toArray, List.getElem?_cons_succ, List.getElem?_cons_zero]; exact rfl)
                case hf4x10 => kernel_rfl
                case hr4x10 => kernel_rfl
                case hy4x10 => (refine Or.inl ⟨by rfl, ?_⟩; intro w hSw; (try dsimp only at hSw); go_simp; try with_reducible rfl)
                simp only [put_mk, List.set_cons_succ, List.set_cons_zero]
                refine wpAnyH_take (i := 11) (oi := ?o4x11) (v := ?v4x11) ?hi4x11 (by kernel_rfl) ?hf4x11 ?hr4x11 (fun _ _ _ h => h) ?hy4x11 (by assumption) ?rest4x11
                case hi4x11 => (simp only [List.getElem?_toArray, List.getElem?_cons_succ, List.getElem?_cons_zero]; exact rfl)
                case hf4x11 => kernel_rfl
                case hr4x11 => kernel_rfl
                case hy4x11 => (refine Or.inl ⟨by rfl, ?_⟩; intro w hSw; (try dsimp only at hSw); go_simp; try with_reducible rfl)
                simp only [put_mk, List.set_cons_succ, List.set_cons_zero]
                refine wpAnyH_done (by kernel_rfl) ?_ _
                refine NoPanic.normal ?_
                go_upto_region 21 with fail
                have hx5 := hx.trans hHeld
                clear f0 f1 f2 f3 f4 r0 r1 r2 r3 r4 r5 HPq hx
                go_wp2
                go_roundw
                case rel => exact ⟨i + 1, Hiq.out, (by first | rfl | go_num), hx5⟩
                case measure => first | exact nx_tw Hiq.out hq6 | exact nxt_tw Hiq.out
              · obtain rfl : i = q := by omega
                go_wp2
                go_ret
                exact ⟨rfl, hx0.trans (Hxwp.out.trans hx)⟩

          · clear hHeld
            go_upto_region 18 with fail
            go_loopw [147] (fun s147 wr => ∃ i : Nat, i ≤ q ∧ s147 = .int .i64 i ∧ Ext wp wr) (fun s147 _ => q - (intOf s147).toNat)
            case atStart => exact ⟨0, Nat.zero_le _, rfl, Ext.refl _⟩
            case round =>
              obtain ⟨i, hi, rfl, hx⟩ := hrel
              by_cases hiq : i < q
              · have Hiq := hidA hiq
                have i0 : (0 : Int) ≤ i := by omega
                have i1 : (i : Int) < q := by omega
                have i2 : (0 : Int) ≤ ((i + 1 : Nat) : Int) := by omega
                have i3 : ((i + 1 : Nat) : Int) ≤ cap := by have := Hcap.out; omega
                have i4 : (0 : Int) ≤ (i : Int) + 1 := by omega
                have i5 : (i : Int) + 1 ≤ cap := by have := Hcap.out; omega
                have iw : IntKind.i64.wrap ((i : Int) + 1) = ((i + 1 : Nat) : Int) := by rw [IntWalk.i64_in _ ⟨by omega, by omega⟩]; omega
                have iw2 : wrap64 ((i : Int) + 1) = ((i + 1 : Nat) : Int) := by rw [IntWalk.wrap64_in _ ⟨by omega, by omega⟩]; omega
                obtain ⟨s, hs⟩ := HPre.out i hiq
                have hgt := HGt.out i s hiq hs
                have hgt2 : ¬ FloatKind.f32.format.order s (P t) = some .gt := ne_of_beq hgt
                have HPq := fun (w' : World) (h : Ext wr w') => HPi i s hiq hs w' (hx0.trans (Hxwp.out.trans (hx.trans h))) (Hx2wp.out.trans (hx.trans h))
                have Hxwr := hidA (Hxwp.out.trans hx)
                have f0 : ∀ w', Ext wr w' → w'.cell? ⟨hf, 0, none⟩ = some (.int .i64 X) := fun w' h => (kF.ext (Hxwr.out.trans h)).cell 0
                have f1 : ∀ w', Ext wr w' → w'.cell? ⟨hf, 1, none⟩ = some (.int .i64 Y) := fun w' h => (kF.ext (Hxwr.out.trans h)).cell 1
                have f2 : ∀ w', Ext wr w' → w'.cell? ⟨hf, 2, none⟩ = some (.int .i64 (Wn : Int)) := fun w' h => (kF.ext (Hxwr.out.trans h)).cell 2
                have f3 : ∀ w', Ext wr w' → w'.cell? ⟨hf, 3, none⟩ = some (.int .i64 (Hn : Int)) := fun w' h => (kF.ext (Hxwr.out.trans h)).cell 3
                have f4 : ∀ w', Ext wr w' → w'.cell? ⟨hf, 4, none⟩ = some (.slice A N c) := fun w' h => (kF.ext (Hxwr.out.trans h)).cell 4
                have r0 : ∀ w', Ext wr w' → w'.cell? ⟨hr', 0, none⟩ = some (.float .f32 R.gr) := fun w' h => (kR.ext (Hxwr.out.trans h)).cell 0
                have r1 : ∀ w', Ext wr w' → w'.cell? ⟨hr', 1, none⟩ = some (.float .f32 R.wt) := fun w' h => (kR.ext (Hxwr.out.trans h)).cell 1
                have r2 : ∀ w', Ext wr w' → w'.cell? ⟨hr', 2, none⟩ = some (.float .f32 R.br) := fun w' h => (kR.ext (Hxwr.out.trans h)).cell 2
                have r3 : ∀ w', Ext wr w' → w'.cell? ⟨hr', 3, none⟩ = some (.float .f32 R.de) := fun w' h => (kR.ext (Hxwr.out.trans h)).cell 3
                have r4 : ∀ w', Ext wr w' → w'.cell? ⟨hr', 4, none⟩ = some (.int .i64 (R.sp : Int)) := fun w' h => (kR.ext (Hxwr.out.trans h)).cell 4
                have r5 : ∀ w', Ext wr w' → w'.cell? ⟨hr', 5, none⟩ = some (.slice C m cc) := fun w' h => (kR.ext (Hxwr.out.trans h)).cell 5

                clear hs hi hiq
                go_upto_region 20 with fail
                refine wp_region_noPanic ?_
                refine wp_region_held_drew (S := fun w' => Ext wr w') (by kernel_rfl) ?_ (fun hHeld => ?_)
                · (repeat (first | exact Ext.refl _ | assumption | refine Ext.setCell ?_ (by first | (simp; done) | (simp; omega)) _ | refine Ext.drewN ?_ _ | refine Ext.alloc ?_ _ | refine Ext.drew ?_ | refine Ext.trans ?_ (by assumption)))
                refine wpAnyH_take (i := 0) (oi := ?o5x0) (v := ?v5x0) ?hi5x0 (by kernel_rfl) ?hf5x0 ?hr5x0 (fun _ _ _ h => h) ?hy5x0 (by assumption) ?rest5x0
                case hi5x0 => (simp only [List.getElem?_toArray, List.getElem?_cons_zero]; exact rfl)
                case hf5x0 => kernel_rfl
                case hr5x0 => kernel_rfl
                case hy5x0 => (refine Or.inl ⟨by rfl, ?_⟩; intro w hSw; (try dsimp only at hSw); go_simp; try with_reducible rfl)
                simp only [put_mk, List.set_cons_succ, List.set_cons_zero]
                refine wpAnyH_take (i := 1) (oi := ?o5x1) (v := ?v5x1) ?hi5x1 (by kernel_rfl) ?hf5x1 ?hr5x1 (fun _ _ _ h => h) ?hy5x1 (by assumption) ?rest5x1
                case hi5x1 => (simp only [List.getElem?_toArray, List.getElem?_cons_succ, List.getElem?_cons_zero]; exact rfl)
                case hf5x1 => kernel_rfl
                case hr5x1 => kernel_rfl
                case hy5x1 => (refine Or.inl ⟨by rfl, ?_⟩; intro w hSw; (try dsimp only at hSw); go_simp; try with_reducible rfl)
                simp only [put_mk, List.set_cons_succ, List.set_cons_zero]
                refine wpAnyH_take (i := 2) (oi := ?o5x2) (v := ?v5x2) ?hi5x2 (by kernel_rfl) ?hf5x2 ?hr5x2 (fun _ _ _ h => h) ?hy5x2 (by assumption) ?rest5x2
                case hi5x2 => (simp only [List.getElem?_toArray, List.getElem?_cons_succ, List.getElem?_cons_zero]; exact rfl)
                case hf5x2 => kernel_rfl
                case hr5x2 => kernel_rfl
                case hy5x2 => (refine Or.inl ⟨by rfl, ?_⟩; intro w hSw; (try dsimp only at hSw); go_simp; try with_reducible rfl)
                simp only [put_mk, List.set_cons_succ, List.set_cons_zero]
                refine wpAnyH_take (i := 3) (oi := ?o5x3) (v := ?v5x3) ?hi5x3 (by kernel_rfl) ?hf5x3 ?hr5x3 (fun _ _ _ h => h) ?hy5x3 (by assumption) ?rest5x3
                case hi5x3 => (simp only [List.getElem?_toArray, List.getElem?_cons_succ, List.getElem?_cons_zero]; exact rfl)
                case hf5x3 => kernel_rfl
                case hr5x3 => kernel_rfl
                case hy5x3 => (refine Or.inl ⟨by rfl, ?_⟩; intro w hSw; (try dsimp only at hSw); go_simp; try with_reducible rfl)
                simp only [put_mk, List.set_cons_succ, List.set_cons_zero]
                refine wpAnyH_take (i := 4) (oi := ?o5x4) (v := ?v5x4) ?hi5x4 (by kernel_rfl) ?hf5x4 ?hr5x4 (fun _ _ _ h => h) ?hy5x4 (by assumption) ?rest5x4
                case hi5x4 => (simp only [List.getElem?_toArray, List.getElem?_cons_succ, List.getElem?_cons_zero]; exact rfl)
                case hf5x4 => kernel_rfl
                case hr5x4 => kernel_rfl
                case hy5x4 => (refine Or.inl ⟨by rfl, ?_⟩; intro w hSw; (try dsimp only at hSw); go_simp; try with_reducible rfl)
                simp only [put_mk, List.set_cons_succ, List.set_cons_zero]
                refine wpAnyH_take (i := 5) (oi := ?o5x5) (v := ?v5x5) ?hi5x5 (by kernel_rfl) ?hf5x5 ?hr5x5 (fun _ _ _ h => h) ?hy5x5 (by assumption) ?rest5x5
                case hi5x5 => (simp only [List.getElem?_toArray, List.getElem?_cons_succ, List.getElem?_cons_zero]; exact rfl)
                case hf5x5 => kernel_rfl
                case hr5x5 => kernel_rfl
                case hy5x5 => (refine Or.inl ⟨by rfl, ?_⟩; intro w hSw; (try dsimp only at hSw); go_simp; try with_reducible rfl)
                simp only [put_mk, List.set_cons_succ, List.set_cons_zero]
                refine wpAnyH_ready (rs := [6]) (by kernel_rfl) (by simp) ?_
                refine AllReadyH.cons (o := ?o5x6) ?hi5x6 (fun K hK => ?_) AllReadyH.nil
                case hi5x6 => (simp only [List.getElem?_toArray, List.getElem?_cons_succ, List.getElem?_cons_zero]; exact rfl)
                go_simp
                go_at_call 7
                refine ((HPq _ (by repeat (first | exact Ext.refl _ | assumption | refine Ext.setCell ?_ (by first | (simp; done) | (simp; omega)) _ | refine Ext.drewN ?_ _ | refine Ext.alloc ?_ _ | refine Ext.drew ?_ | refine Ext.trans ?_ (by assumption)))).out).mono ?_
                rintro e wp ⟨rfl, hxp⟩
                refine hK.out _ _ ?_ (fun hHeld => ?_)
                · (repeat (first | exact Ext.refl _ | assumption | refine Ext.setCell ?_ (by first | (simp; done) | (simp; omega)) _ | refine Ext.drewN ?_ _ | refine Ext.alloc ?_ _ | refine Ext.drew ?_ | refine Ext.trans ?_ (by assumption)))
                clear hK K
                refine wpAnyH_take (i := 7) (oi := ?o5x7) (v := ?v5x7) ?hi5x7 (by kernel_rfl) ?hf5x7 ?hr5x7 (fun _ _ _ h => h) ?hy5x7 (by assumption) ?rest5x7
                case hi5x7 => (simp only [List.getElem?_toArray, List.getElem?_cons_succ, List.getElem?_cons_zero]; exact rfl)
                case hf5x7 => kernel_rfl
                case hr5x7 => kernel_rfl
                case hy5x7 => (refine Or.inl ⟨by rfl, ?_⟩; intro w hSw; (try dsimp only at hSw); go_simp; try with_reducible rfl)
                simp only [put_mk, List.set_cons_succ, List.set_cons_zero]
                refine wpAnyH_take (i := 8) (oi := ?o5x8) (v := ?v5x8) ?hi5x8 (by kernel_rfl) ?hf5x8 ?hr5x8 (fun _ _ _ h => h) ?hy5x8 (by assumption) ?rest5x8
                case hi5x8 => (simp only [List.getElem?_toArray, List.getElem?_cons_succ, List.getElem?_cons_zero]; exact rfl)
                case hf5x8 => kernel_rfl
                case hr5x8 => kernel_rfl
                case hy5x8 => (refine Or.inl ⟨by rfl, ?_⟩; intro w hSw; (try dsimp only at hSw); go_simp; try with_reducible rfl)
                simp only [put_mk, List.set_cons_succ, List.set_cons_zero]
                refine wpAnyH_take (i := 9) (oi := ?o5x9) (v := ?v5x9) ?hi5x9 (by kernel_rfl) ?hf5x9 ?hr5x9 (fun _ _ _ h => h) ?hy5x9 (by assumption) ?rest5x9
                case hi5x9 => (simp only [List.getElem?_toArray, List.getElem?_cons_succ, List.getElem?_cons_zero]; exact rfl)
                case hf5x9 => kernel_rfl
                case hr5x9 => kernel_rfl
                case hy5x9 => (refine Or.inl ⟨by rfl, ?_⟩; intro w hSw; (try dsimp only at hSw); go_simp; try with_reducible rfl)
                simp only [put_mk, List.set_cons_succ, List.set_cons_zero]
                refine wpAnyH_take (i := 10) (oi := ?o5x10) (v := ?v5x10) ?hi5x10 (by kernel_rfl) ?hf5x10 ?hr5x10 (fun _ _ _ h => h) ?hy5x10 (by assumption) ?rest5x10
                case hi5x10 => (simp only [List.getElem?_toArray, List.getElem?_cons_succ, List.getElem?_cons_zero]; exact rfl)
                case hf5x10 => kernel_rfl
                case hr5x10 => kernel_rfl
                case hy5x10 => (refine Or.inl ⟨by rfl, ?_⟩; intro w hSw; (try dsimp only at hSw); go_simp; try with_reducible rfl)
                simp only [put_mk, List.set_cons_succ, List.set_cons_zero]
                refine wpAnyH_take (i := 11) (oi := ?o5x11) (v := ?v5x11) ?hi5x11 (by kernel_rfl) ?hf5x11 ?hr5x11 (fun _ _ _ h => h) ?hy5x11 (by assumption) ?rest5x11
                case hi5x11 => (simp only [List.getElem?_toArray, List.getElem?_cons_succ, List.getElem?_cons_zero]; exact rfl)
                case hf5x11 => kernel_rfl
                case hr5x11 => kernel_rfl
                case hy5x11 => (refine Or.inl ⟨by rfl, ?_⟩; intro w hSw; (try dsimp only at hSw); go_simp; try with_reducible rfl)
                simp only [put_mk, List.set_cons_succ, List.set_cons_zero]
                refine wpAnyH_done (by kernel_rfl) ?_ _
                refine NoPanic.normal ?_
                go_upto_region 21 with fail
                have hx5 := hx.trans hHeld
                clear f0 f1 f2 f3 f4 r0 r1 r2 r3 r4 r5 HPq hx
                go_wp2
                go_roundw
                case rel => exact ⟨i + 1, Hiq.out, (by first | rfl | go_num), hx5⟩
                case measure => first | exact nx_tw Hiq.out hq6 | exact nxt_tw Hiq.out
              · obtain rfl : i = q := by omega
                go_wp2
                go_ret
                exact ⟨rfl, hx0.trans (Hxwp.out.trans hx)⟩

        · have hc2 : ¬ (cap3 : Int) = 1 := by omega
          have HP4 := fun (w' : World) (h : Ext w6 w') (B9 : Option Addr) (c9 : Nat) (h2 : Rd w' B9 (ptv ps2 ++ ptv (ps3.drop 1))) (h3 : q2 + (q3 - 1) ≤ c9) => HPk.out w' h B9 (q2 + (q3 - 1)) c9 (by rw [List.length_append, List.length_drop, ← Ha2.out, ← Hb2.out]) (by rw [ptv_append]; exact h2) h3 (by have := H2.out; omega)
          have hmx := hidA (show q2 + (q3 - 1) ≤ maxLen by unfold maxLen; have := H2.out; have := H3.out; omega)
          have hmb := hidA (show (q2 + (q3 - 1)) * 16 ≤ 140737488355328 by have := H2.out; have := H3.out; omega)
          have hl3 := hidA (show (ptv (ps3.drop 1)).length = (q3 - 1) * 2 from by rw [ptv_length, List.length_drop, ← Hb2.out])
          have hT3 : Hid (Rd w6 (some ⟨ad3.block, ad3.off + 2, none⟩) (ptv (ps3.drop 1))) := by
            have h9 := Rd.pdrop HRd3.out
            rw [add_pos _ (by omega : 0 < 2)] at h9
            exact h9
          go_upto_region 14 with fail
          refine wp_region_noPanic ?_
          refine wp_region_held_drew (S := fun w' => Ext w6 w') (by kernel_rfl) ?_ (fun hHeld => ?_)
          · (first | exact hx9 | (repeat (first | exact Ext.refl _ | assumption | refine Ext.setCell ?_ (by first | (simp; done) | (simp; omega)) _ | refine Ext.drewN ?_ _ | refine Ext.alloc ?_ _ | refine Ext.drew ?_ | refine Ext.trans ?_ (by assumption))))
          refine wpAnyH_take (i := 0) (oi := ?o6x0) (v := ?v6x0) ?hi6x0 (by kernel_rfl) ?hf6x0 ?hr6x0 (fun _ _ _ h => h) ?hy6x0 (by assumption) ?rest6x0
          case hi6x0 => (simp only [List.getElem?_toArray, List.getElem?_cons_zero]; exact rfl)
          case hf6x0 => kernel_rfl
          case hr6x0 => kernel_rfl
          case hy6x0 => (refine Or.inl ⟨by rfl, ?_⟩; intro w hSw; (try dsimp only at hSw); go_simp; try with_reducible rfl)
          simp only [put_mk, List.set_cons_succ, List.set_cons_zero]
          refine wpAnyH_take (i := 1) (oi := ?o6x1) (v := ?v6x1) ?hi6x1 (by kernel_rfl) ?hf6x1 ?hr6x1 (fun _ _ _ h => h) ?hy6x1 (by assumption) ?rest6x1
          case hi6x1 => (simp only [List.getElem?_toArray, List.getElem?_cons_succ, List.getElem?_cons_zero]; exact rfl)
          case hf6x1 => kernel_rfl
          case hr6x1 => kernel_rfl
          case hy6x1 => (refine Or.inl ⟨by rfl, ?_⟩; intro w hSw; (try dsimp only at hSw); go_simp; try with_reducible rfl)
          simp only [put_mk, List.set_cons_succ, List.set_cons_zero]
          refine wpAnyH_take (i := 2) (oi := ?o6x2) (v := ?v6x2) ?hi6x2 (by kernel_rfl) ?hf6x2 ?hr6x2 (fun _ _ _ h => h) ?hy6x2 (by assumption) ?rest6x2
          case hi6x2 => (simp only [List.getElem?_toArray, List.getElem?_cons_succ, List.getElem?_cons_zero]; exact rfl)
          case hf6x2 => kernel_rfl
          case hr6x2 => kernel_rfl
          case hy6x2 => (refine Or.inl ⟨by rfl, ?_⟩; intro w hSw; (try dsimp only at hSw); go_simp; try with_reducible rfl)
          simp only [put_mk, List.set_cons_succ, List.set_cons_zero]
          refine wpAnyH_take (i := 4) (oi := ?o6x4) (v := ?v6x4) ?hi6x4 (by kernel_rfl) ?hf6x4 ?hr6x4 (fun _ _ _ h => h) ?hy6x4 (by assumption) ?rest6x4
          case hi6x4 => (simp only [List.getElem?_toArray, List.getElem?_cons_succ, List.getElem?_cons_zero]; exact rfl)
          case hf6x4 => kernel_rfl
          case hr6x4 => kernel_rfl
          case hy6x4 => (refine Or.inl ⟨by rfl, ?_⟩; intro w hSw; (try dsimp only at hSw); go_simp; try with_reducible rfl)
          simp only [put_mk, List.set_cons_succ, List.set_cons_zero]
          refine wpAnyH_take (i := 5) (oi := ?o6x5) (v := ?v6x5) ?hi6x5 (by kernel_rfl) ?hf6x5 ?hr6x5 (fun _ _ _ h => h) ?hy6x5 (by assumption) ?rest6x5
          case hi6x5 => (simp only [List.getElem?_toArray, List.getElem?_cons_succ, List.getElem?_cons_zero]; exact rfl)
          case hf6x5 => kernel_rfl
          case hr6x5 => kernel_rfl
          case hy6x5 => (refine Or.inl ⟨by rfl, ?_⟩; intro w hSw; (try dsimp only at hSw); go_simp; try with_reducible rfl)
          simp only [put_mk, List.set_cons_succ, List.set_cons_zero]
          refine wpAnyH_ready (rs := [3]) (by kernel_rfl) (by simp) ?_
          refine AllReadyH.cons (o := ?o6x3) ?hi6x3 (fun K hK => ?_) AllReadyH.nil
          case hi6x3 => (simp only [List.getElem?_toArray, List.getElem?_cons_succ, List.getElem?_cons_zero]; exact rfl)
          go_simp
          go_at_call 8
          refine ((HClq _ hHeld).out).mono ?_
          rintro e wc ⟨vc, rfl, hOc, hxc⟩
          refine hK.out _ _ ?_ (fun hHeld => ?_)
          · (first | exact hx9 | (repeat (first | exact Ext.refl _ | assumption | refine Ext.setCell ?_ (by first | (simp; done) | (simp; omega)) _ | refine Ext.drewN ?_ _ | refine Ext.alloc ?_ _ | refine Ext.drew ?_ | refine Ext.trans ?_ (by assumption))))
          clear hK K
          refine wpAnyH_ready (rs := [6]) (by kernel_rfl) (by simp) ?_
          refine AllReadyH.cons (o := ?o6x6) ?hi6x6 (fun K hK => ?_) AllReadyH.nil
          case hi6x6 => (simp only [List.getElem?_toArray, List.getElem?_cons_succ, List.getElem?_cons_zero]; exact rfl)
          refine step_append_own (by rfl) (.tmp 127) (.tmp 129) 34 (by rfl) w6.heap.size 32 ti (.agg #[.int .i64 0, .int .i64 0]) 2 16 Try.underlying34 hi0 hz0 hz1 hz2 (by rfl) (by decide) _ q2 (ptv ps2) (by rfl) (Own.ext2 hOc (by repeat (first | exact Ext.refl _ | assumption | refine Ext.setCell ?_ (by first | (simp; done) | (simp; omega)) _ | refine Ext.drewN ?_ _ | refine Ext.alloc ?_ _ | refine Ext.drew ?_ | refine Ext.trans ?_ (by assumption)))) ⟨ad3.block, ad3.off + 2, none⟩ (q3 - 1) (cap3 - 1) (ptv (ps3.drop 1)) (by rfl) hl3.out (Rd.newsT (hT3.out.ext hHeld)) (ptv_one _) hmx.out hmb.out (Ext.size (by repeat (first | exact Ext.refl _ | assumption | refine Ext.setCell ?_ (by first | (simp; done) | (simp; omega)) _ | refine Ext.drewN ?_ _ | refine Ext.alloc ?_ _ | refine Ext.drew ?_ | refine Ext.trans ?_ (by assumption)))) ?_
          intro v9 w9 hown9 hgrow9
          have hx9 : Ext w6 w9 := hHeld.grown hgrow9 (fun b hb => (World.ownsRow.lt hOc b hb).1)
          obtain ⟨B9, c9, hv9, hr9, hc9⟩ := own_formL hown9
          subst hv9
          refine hK.out _ _ ?_ (fun hHeld => ?_)
          · (first | exact hx9 | (repeat (first | exact Ext.refl _ | assumption | refine Ext.setCell ?_ (by first | (simp; done) | (simp; omega)) _ | refine Ext.drewN ?_ _ | refine Ext.alloc ?_ _ | refine Ext.drew ?_ | refine Ext.trans ?_ (by assumption))))
          clear hK K
          simp only [put_mk, List.set_cons_succ, List.set_cons_zero]
          refine wpAnyH_ready (rs := [7]) (by kernel_rfl) (by simp) ?_
          refine AllReadyH.cons (o := ?o6x7) ?hi6x7 (fun K hK => ?_) AllReadyH.nil
          case hi6x7 => (simp only [List.getElem?_toArray, List.getElem?_cons_succ, List.getElem?_cons_zero]; exact rfl)
          go_simp
          go_at_call 7
          refine ((HP4 _ (hHeld) B9 c9 (hr9.ext (by first | exact Ext.refl _ | (repeat (first | exact Ext.refl _ | assumption | refine Ext.setCell ?_ (by first | (simp; done) | (simp; omega)) _ | refine Ext.drewN ?_ _ | refine Ext.alloc ?_ _ | refine Ext.drew ?_ | refine Ext.trans ?_ (by assumption))))) hc9).out).mono ?_
          rintro e wp ⟨cv, gv, rfl, hxp, hcg⟩
          refine hK.out _ _ ?_ (fun hHeld => ?_)
          · (first | exact hx9 | (repeat (first | exact Ext.refl _ | assumption | refine Ext.setCell ?_ (by first | (simp; done) | (simp; omega)) _ | refine Ext.drewN ?_ _ | refine Ext.alloc ?_ _ | refine Ext.drew ?_ | refine Ext.trans ?_ (by assumption))))
          clear hK K
          refine wpAnyH_take (i := 8) (oi := ?o6x8) (v := ?v6x8) ?hi6x8 (by kernel_rfl) ?hf6x8 ?hr6x8 (fun _ _ _ h => h) ?hy6x8 (by assumption) ?rest6x8
          case hi6x8 => (simp only [List.getElem?_toArray, List.getElem?_cons_succ, List.getElem?_cons_zero]; exact rfl)
          case hf6x8 => kernel_rfl
          case hr6x8 => kernel_rfl
          case hy6x8 => (refine Or.inl ⟨by rfl, ?_⟩; intro w hSw; (try dsimp only at hSw); go_simp; try with_reducible rfl)
          simp only [put_mk, List.set_cons_succ, List.set_cons_zero]
          refine wpAnyH_take (i := 9) (oi := ?o6x9) (v := ?v6x9) ?hi6x9 (by kernel_rfl) ?hf6x9 ?hr6x9 (fun _ _ _ h => h) ?hy6x9 (by assumption) ?rest6x9
          case hi6x9 => (simp only [List.getElem?_toArray, List.getElem?_cons_succ, List.getElem?_cons_zero]; exact rfl)
          case hf6x9 => kernel_rfl
          case hr6x9 => kernel_rfl
          case hy6x9 => (refine Or.inl ⟨by rfl, ?_⟩; intro w hSw; (try dsimp only at hSw); go_simp; try with_reducible rfl)
          simp only [put_mk, List.set_cons_succ, List.set_cons_zero]
          refine wpAnyH_take (i := 10) (oi := ?o6x10) (v := ?v6x10) ?hi6x10 (by kernel_rfl) ?hf6x10 ?hr6x10 (fun _ _ _ h => h) ?hy6x10 (by assumption) ?rest6x10
          case hi6x10 => (simp only [List.getElem?_toArray, List.getElem?_cons_succ, List.getElem?_cons_zero]; exact rfl)
          case hf6x10 => kernel_rfl
          case hr6x10 => kernel_rfl
          case hy6x10 => (refine Or.inl ⟨by rfl, ?_⟩; intro w hSw; (try dsimp only at hSw); go_simp; try with_reducible rfl)
          simp only [put_mk, List.set_cons_succ, List.set_cons_zero]
          refine wpAnyH_take (i := 11) (oi := ?o6x11) (v := ?v6x11) ?hi6x11 (by kernel_rfl) ?hf6x11 ?hr6x11 (fun _ _ _ h => h) ?hy6x11 (by assumption) ?rest6x11
          case hi6x11 => (simp only [List.getElem?_toArray, List.getElem?_cons_succ, List.getElem?_cons_zero]; exact rfl)
          case hf6x11 => kernel_rfl
          case hr6x11 => kernel_rfl
          case hy6x11 => (refine Or.inl ⟨by rfl, ?_⟩; intro w hSw; (try dsimp only at hSw); go_simp; try with_reducible rfl)
          simp only [put_mk, List.set_cons_succ, List.set_cons_zero]
          refine wpAnyH_take (i := 12) (oi := ?o6x12) (v := ?v6x12) ?hi6x12 (by kernel_rfl) ?hf6x12 ?hr6x12 (fun _ _ _ h => h) ?hy6x12 (by assumption) ?rest6x12
          case hi6x12 => (simp only [List.getElem?_toArray, List.getElem?_cons_succ, List.getElem?_cons_zero]; exact rfl)
          case hf6x12 => kernel_rfl
          case hr6x12 => kernel_rfl
          case hy6x12 => (refine Or.inl ⟨by rfl, ?_⟩; intro w hSw; (try dsimp only at hSw); go_simp; try with_reducible rfl)
          simp only [put_mk, List.set_cons_succ, List.set_cons_zero]
          refine wpAnyH_done (by kernel_rfl) ?_ _
          refine NoPanic.normal ?_
          go_upto_region 15 with fail
          have Hxwp := hidA (Hxw6.out.trans hHeld)
          have Hx2wp := hidA (Hx2w6.out.trans hHeld)
          clear f0 f1 f2 f3 f4 r0 r1 r2 r3 r4 r5 hown9 hgrow9 hr9 hc9 hx9 hmx hmb HP4 HPk HClq HMem hl3 hT3 ci1 ci2 hOc
          rcases hcg with rfl | ⟨rfl, rfl⟩
          · clear hHeld
            go_upto_region 18 with fail
            go_loopw [147] (fun s147 wr => ∃ i : Nat, i ≤ q ∧ s147 = .int .i64 i ∧ Ext wp wr) (fun s147 _ => q - (intOf s147).toNat)
            case atStart => exact ⟨0, Nat.zero_le _, rfl, Ext.refl _⟩
            case round =>
              obtain ⟨i, hi, rfl, hx⟩ := hrel
              by_cases hiq : i < q
              · have Hiq := hidA hiq
                have i0 : (0 : Int) ≤ i := by omega
                have i1 : (i : Int) < q := by omega
                have i2 : (0 : Int) ≤ ((i + 1 : Nat) : Int) := by omega
                have i3 : ((i + 1 : Nat) : Int) ≤ cap := by have := Hcap.out; omega
                have i4 : (0 : Int) ≤ (i : Int) + 1 := by omega
                have i5 : (i : Int) + 1 ≤ cap := by have := Hcap.out; omega
                have iw : IntKind.i64.wrap ((i : Int) + 1) = ((i + 1 : Nat) : Int) := by rw [IntWalk.i64_in _ ⟨by omega, by omega⟩]; omega
                have iw2 : wrap64 ((i : Int) + 1) = ((i + 1 : Nat) : Int) := by rw [IntWalk.wrap64_in _ ⟨by omega, by omega⟩]; omega
                obtain ⟨s, hs⟩ := HPre.out i hiq
                have hgt := HGt.out i s hiq hs
                have hgt2 : ¬ FloatKind.f32.format.order s (P t) = some .gt := ne_of_beq hgt
                have HPq := fun (w' : World) (h : Ext wr w') => HPi i s hiq hs w' (hx0.trans (Hxwp.out.trans (hx.trans h))) (Hx2wp.out.trans (hx.trans h))
                have Hxwr := hidA (Hxwp.out.trans hx)
                have f0 : ∀ w', Ext wr w' → w'.cell? ⟨hf, 0, none⟩ = some (.int .i64 X) := fun w' h => (kF.ext (Hxwr.out.trans h)).cell 0
                have f1 : ∀ w', Ext wr w' → w'.cell? ⟨hf, 1, none⟩ = some (.int .i64 Y) := fun w' h => (kF.ext (Hxwr.out.trans h)).cell 1
                have f2 : ∀ w', Ext wr w' → w'.cell? ⟨hf, 2, none⟩ = some (.int .i64 (Wn : Int)) := fun w' h => (kF.ext (Hxwr.out.trans h)).cell 2
                have f3 : ∀ w', Ext wr w' → w'.cell? ⟨hf, 3, none⟩ = some (.int .i64 (Hn : Int)) := fun w' h => (kF.ext (Hxwr.out.trans h)).cell 3
                have f4 : ∀ w', Ext wr w' → w'.cell? ⟨hf, 4, none⟩ = some (.slice A N c) := fun w' h => (kF.ext (Hxwr.out.trans h)).cell 4
                have r0 : ∀ w', Ext wr w' → w'.cell? ⟨hr', 0, none⟩ = some (.float .f32 R.gr) := fun w' h => (kR.ext (Hxwr.out.trans h)).cell 0
                have r1 : ∀ w', Ext wr w' → w'.cell? ⟨hr', 1, none⟩ = some (.float .f32 R.wt) := fun w' h => (kR.ext (Hxwr.out.trans h)).cell 1
                have r2 : ∀ w', Ext wr w' → w'.cell? ⟨hr', 2, none⟩ = some (.float .f32 R.br) := fun w' h => (kR.ext (Hxwr.out.trans h)).cell 2
                have r3 : ∀ w', Ext wr w' → w'.cell? ⟨hr', 3, none⟩ = some (.float .f32 R.de) := fun w' h => (kR.ext (Hxwr.out.trans h)).cell 3
                have r4 : ∀ w', Ext wr w' → w'.cell? ⟨hr', 4, none⟩ = some (.int .i64 (R.sp : Int)) := fun w' h => (kR.ext (Hxwr.out.trans h)).cell 4
                have r5 : ∀ w', Ext wr w' → w'.cell? ⟨hr', 5, none⟩ = some (.slice C m cc) := fun w' h => (kR.ext (Hxwr.out.trans h)).cell 5

                clear hs hi hiq
                go_upto_region 20 with fail
                refine wp_region_noPanic ?_
                refine wp_region_held_drew (S := fun w' => Ext wr w') (by kernel_rfl) ?_ (fun hHeld => ?_)
                · (repeat (first | exact Ext.refl _ | assumption | refine Ext.setCell ?_ (by first | (simp; done) | (simp; omega)) _ | refine Ext.drewN ?_ _ | refine Ext.alloc ?_ _ | refine Ext.drew ?_ | refine Ext.trans ?_ (by assumption)))
                refine wpAnyH_take (i := 0) (oi := ?o7x0) (v := ?v7x0) ?hi7x0 (by kernel_rfl) ?hf7x0 ?hr7x0 (fun _ _ _ h => h) ?hy7x0 (by assumption) ?rest7x0
                case hi7x0 => (simp only [List.getElem?_toArray, List.getElem?_cons_zero]; exact rfl)
                case hf7x0 => kernel_rfl
                case hr7x0 => kernel_rfl
                case hy7x0 => (refine Or.inl ⟨by rfl, ?_⟩; intro w hSw; (try dsimp only at hSw); go_simp; try with_reducible rfl)
                simp only [put_mk, List.set_cons_succ, List.set_cons_zero]
                refine wpAnyH_take (i := 1) (oi := ?o7x1) (v := ?v7x1) ?hi7x1 (by kernel_rfl) ?hf7x1 ?hr7x1 (fun _ _ _ h => h) ?hy7x1 (by assumption) ?rest7x1
                case hi7x1 => (simp only [List.getElem?_toArray, List.getElem?_cons_succ, List.getElem?_cons_zero]; exact rfl)
                case hf7x1 => kernel_rfl
                case hr7x1 => kernel_rfl
                case hy7x1 => (refine Or.inl ⟨by rfl, ?_⟩; intro w hSw; (try dsimp only at hSw); go_simp; try with_reducible rfl)
                simp only [put_mk, List.set_cons_succ, List.set_cons_zero]
                refine wpAnyH_take (i := 2) (oi := ?o7x2) (v := ?v7x2) ?hi7x2 (by kernel_rfl) ?hf7x2 ?hr7x2 (fun _ _ _ h => h) ?hy7x2 (by assumption) ?rest7x2
                case hi7x2 => (simp only [List.getElem?_toArray, List.getElem?_cons_succ, List.getElem?_cons_zero]; exact rfl)
                case hf7x2 => kernel_rfl
                case hr7x2 => kernel_rfl
                case hy7x2 => (refine Or.inl ⟨by rfl, ?_⟩; intro w hSw; (try dsimp only at hSw); go_simp; try with_reducible rfl)
                simp only [put_mk, List.set_cons_succ, List.set_cons_zero]
                refine wpAnyH_take (i := 3) (oi := ?o7x3) (v := ?v7x3) ?hi7x3 (by kernel_rfl) ?hf7x3 ?hr7x3 (fun _ _ _ h => h) ?hy7x3 (by assumption) ?rest7x3
                case hi7x3 => (simp only [List.getElem?_toArray, List.getElem?_cons_succ, List.getElem?_cons_zero]; exact rfl)
                case hf7x3 => kernel_rfl
                case hr7x3 => kernel_rfl
                case hy7x3 => (refine Or.inl ⟨by rfl, ?_⟩; intro w hSw; (try dsimp only at hSw); go_simp; try with_reducible rfl)
                simp only [put_mk, List.set_cons_succ, List.set_cons_zero]
                refine wpAnyH_take (i := 4) (oi := ?o7x4) (v := ?v7x4) ?hi7x4 (by kernel_rfl) ?hf7x4 ?hr7x4 (fun _ _ _ h => h) ?hy7x4 (by assumption) ?rest7x4
                case hi7x4 => (simp only [List.getElem?_toArray, List.getElem?_cons_succ, List.getElem?_cons_zero]; exact rfl)
                case hf7x4 => kernel_rfl
                case hr7x4 => kernel_rfl
                case hy7x4 => (refine Or.inl ⟨by rfl, ?_⟩; intro w hSw; (try dsimp only at hSw); go_simp; try with_reducible rfl)
                simp only [put_mk, List.set_cons_succ, List.set_cons_zero]
                refine wpAnyH_take (i := 5) (oi := ?o7x5) (v := ?v7x5) ?hi7x5 (by kernel_rfl) ?hf7x5 ?hr7x5 (fun _ _ _ h => h) ?hy7x5 (by assumption) ?rest7x5
                case hi7x5 => (simp only [List.getElem?_toArray, List.getElem?_cons_succ, List.getElem?_cons_zero]; exact rfl)
                case hf7x5 => kernel_rfl
                case hr7x5 => kernel_rfl
                case hy7x5 => (refine Or.inl ⟨by rfl, ?_⟩; intro w hSw; (try dsimp only at hSw); go_simp; try with_reducible rfl)
                simp only [put_mk, List.set_cons_succ, List.set_cons_zero]
                refine wpAnyH_ready (rs := [6]) (by kernel_rfl) (by simp) ?_
                refine AllReadyH.cons (o := ?o7x6) ?hi7x6 (fun K hK => ?_) AllReadyH.nil
                case hi7x6 => (simp only [List.getElem?_toArray, List.getElem?_cons_succ, List.getElem?_cons_zero]; exact rfl)
                go_simp
                go_at_call 7
                refine ((HPq _ (by repeat (first | exact Ext.refl _ | assumption | refine Ext.setCell ?_ (by first | (simp; done) | (simp; omega)) _ | refine Ext.drewN ?_ _ | refine Ext.alloc ?_ _ | refine Ext.drew ?_ | refine Ext.trans ?_ (by assumption)))).out).mono ?_
                rintro e wp ⟨rfl, hxp⟩
                refine hK.out _ _ ?_ (fun hHeld => ?_)
                · (repeat (first | exact Ext.refl _ | assumption | refine Ext.setCell ?_ (by first | (simp; done) | (simp; omega)) _ | refine Ext.drewN ?_ _ | refine Ext.alloc ?_ _ | refine Ext.drew ?_ | refine Ext.trans ?_ (by assumption)))
                clear hK K
                refine wpAnyH_take (i := 7) (oi := ?o7x7) (v := ?v7x7) ?hi7x7 (by kernel_rfl) ?hf7x7 ?hr7x7 (fun _ _ _ h => h) ?hy7x7 (by assumption) ?rest7x7
                case hi7x7 => (simp only [List.getElem?_toArray, List.getElem?_cons_succ, List.getElem?_cons_zero]; exact rfl)
                case hf7x7 => kernel_rfl
                case hr7x7 => kernel_rfl
                case hy7x7 => (refine Or.inl ⟨by rfl, ?_⟩; intro w hSw; (try dsimp only at hSw); go_simp; try with_reducible rfl)
                simp only [put_mk, List.set_cons_succ, List.set_cons_zero]
                refine wpAnyH_take (i := 8) (oi := ?o7x8) (v := ?v7x8) ?hi7x8 (by kernel_rfl) ?hf7x8 ?hr7x8 (fun _ _ _ h => h) ?hy7x8 (by assumption) ?rest7x8
                case hi7x8 => (simp only [List.getElem?_toArray, List.getElem?_cons_succ, List.getElem?_cons_zero]; exact rfl)
                case hf7x8 => kernel_rfl
                case hr7x8 => kernel_rfl
                case hy7x8 => (refine Or.inl ⟨by rfl, ?_⟩; intro w hSw; (try dsimp only at hSw); go_simp; try with_reducible rfl)
                simp only [put_mk, List.set_cons_succ, List.set_cons_zero]
                refine wpAnyH_take (i := 9) (oi := ?o7x9) (v := ?v7x9) ?hi7x9 (by kernel_rfl) ?hf7x9 ?hr7x9 (fun _ _ _ h => h) ?hy7x9 (by assumption) ?rest7x9
                case hi7x9 => (simp only [List.getElem?_toArray, List.getElem?_cons_succ, List.getElem?_cons_zero]; exact rfl)
                case hf7x9 => kernel_rfl
                case hr7x9 => kernel_rfl
                case hy7x9 => (refine Or.inl ⟨by rfl, ?_⟩; intro w hSw; (try dsimp only at hSw); go_simp; try with_reducible rfl)
                simp only [put_mk, List.set_cons_succ, List.set_cons_zero]
                refine wpAnyH_take (i := 10) (oi := ?o7x10) (v := ?v7x10) ?hi7x10 (by kernel_rfl) ?hf7x10 ?hr7x10 (fun _ _ _ h => h) ?hy7x10 (by assumption) ?rest7x10
                case hi7x10 => (simp only [List.getElem?_toArray, List.getElem?_cons_succ, List.getElem?_cons_zero]; exact rfl)
                case hf7x10 => kernel_rfl
                case hr7x10 => kernel_rfl
                case hy7x10 => (refine Or.inl ⟨by rfl, ?_⟩; intro w hSw; (try dsimp only at hSw); go_simp; try with_reducible rfl)
                simp only [put_mk, List.set_cons_succ, List.set_cons_zero]
                refine wpAnyH_take (i := 11) (oi := ?o7x11) (v := ?v7x11) ?hi7x11 (by kernel_rfl) ?hf7x11 ?hr7x11 (fun _ _ _ h => h) ?hy7x11 (by assumption) ?rest7x11
                case hi7x11 => (simp only [List.getElem?_toArray, List.getElem?_cons_succ, List.getElem?_cons_zero]; exact rfl)
                case hf7x11 => kernel_rfl
                case hr7x11 => kernel_rfl
                case hy7x11 => (refine Or.inl ⟨by rfl, ?_⟩; intro w hSw; (try dsimp only at hSw); go_simp; try with_reducible rfl)
                simp only [put_mk, List.set_cons_succ, List.set_cons_zero]
                refine wpAnyH_done (by kernel_rfl) ?_ _
                refine NoPanic.normal ?_
                go_upto_region 21 with fail
                have hx5 := hx.trans hHeld
                clear f0 f1 f2 f3 f4 r0 r1 r2 r3 r4 r5 HPq hx
                go_wp2
                go_roundw
                case rel => exact ⟨i + 1, Hiq.out, (by first | rfl | go_num), hx5⟩
                case measure => first | exact nx_tw Hiq.out hq6 | exact nxt_tw Hiq.out
              · obtain rfl : i = q := by omega
                go_wp2
                go_ret
                exact ⟨rfl, hx0.trans (Hxwp.out.trans hx)⟩

          · clear hHeld
            go_upto_region 18 with fail
            go_loopw [147] (fun s147 wr => ∃ i : Nat, i ≤ q ∧ s147 = .int .i64 i ∧ Ext wp wr) (fun s147 _ => q - (intOf s147).toNat)
            case atStart => exact ⟨0, Nat.zero_le _, rfl, Ext.refl _⟩
            case round =>
              obtain ⟨i, hi, rfl, hx⟩ := hrel
              by_cases hiq : i < q
              · have Hiq := hidA hiq
                have i0 : (0 : Int) ≤ i := by omega
                have i1 : (i : Int) < q := by omega
                have i2 : (0 : Int) ≤ ((i + 1 : Nat) : Int) := by omega
                have i3 : ((i + 1 : Nat) : Int) ≤ cap := by have := Hcap.out; omega
                have i4 : (0 : Int) ≤ (i : Int) + 1 := by omega
                have i5 : (i : Int) + 1 ≤ cap := by have := Hcap.out; omega
                have iw : IntKind.i64.wrap ((i : Int) + 1) = ((i + 1 : Nat) : Int) := by rw [IntWalk.i64_in _ ⟨by omega, by omega⟩]; omega
                have iw2 : wrap64 ((i : Int) + 1) = ((i + 1 : Nat) : Int) := by rw [IntWalk.wrap64_in _ ⟨by omega, by omega⟩]; omega
                obtain ⟨s, hs⟩ := HPre.out i hiq
                have hgt := HGt.out i s hiq hs
                have hgt2 : ¬ FloatKind.f32.format.order s (P t) = some .gt := ne_of_beq hgt
                have HPq := fun (w' : World) (h : Ext wr w') => HPi i s hiq hs w' (hx0.trans (Hxwp.out.trans (hx.trans h))) (Hx2wp.out.trans (hx.trans h))
                have Hxwr := hidA (Hxwp.out.trans hx)
                have f0 : ∀ w', Ext wr w' → w'.cell? ⟨hf, 0, none⟩ = some (.int .i64 X) := fun w' h => (kF.ext (Hxwr.out.trans h)).cell 0
                have f1 : ∀ w', Ext wr w' → w'.cell? ⟨hf, 1, none⟩ = some (.int .i64 Y) := fun w' h => (kF.ext (Hxwr.out.trans h)).cell 1
                have f2 : ∀ w', Ext wr w' → w'.cell? ⟨hf, 2, none⟩ = some (.int .i64 (Wn : Int)) := fun w' h => (kF.ext (Hxwr.out.trans h)).cell 2
                have f3 : ∀ w', Ext wr w' → w'.cell? ⟨hf, 3, none⟩ = some (.int .i64 (Hn : Int)) := fun w' h => (kF.ext (Hxwr.out.trans h)).cell 3
                have f4 : ∀ w', Ext wr w' → w'.cell? ⟨hf, 4, none⟩ = some (.slice A N c) := fun w' h => (kF.ext (Hxwr.out.trans h)).cell 4
                have r0 : ∀ w', Ext wr w' → w'.cell? ⟨hr', 0, none⟩ = some (.float .f32 R.gr) := fun w' h => (kR.ext (Hxwr.out.trans h)).cell 0
                have r1 : ∀ w', Ext wr w' → w'.cell? ⟨hr', 1, none⟩ = some (.float .f32 R.wt) := fun w' h => (kR.ext (Hxwr.out.trans h)).cell 1
                have r2 : ∀ w', Ext wr w' → w'.cell? ⟨hr', 2, none⟩ = some (.float .f32 R.br) := fun w' h => (kR.ext (Hxwr.out.trans h)).cell 2
                have r3 : ∀ w', Ext wr w' → w'.cell? ⟨hr', 3, none⟩ = some (.float .f32 R.de) := fun w' h => (kR.ext (Hxwr.out.trans h)).cell 3
                have r4 : ∀ w', Ext wr w' → w'.cell? ⟨hr', 4, none⟩ = some (.int .i64 (R.sp : Int)) := fun w' h => (kR.ext (Hxwr.out.trans h)).cell 4
                have r5 : ∀ w', Ext wr w' → w'.cell? ⟨hr', 5, none⟩ = some (.slice C m cc) := fun w' h => (kR.ext (Hxwr.out.trans h)).cell 5

                clear hs hi hiq
                go_upto_region 20 with fail
                refine wp_region_noPanic ?_
                refine wp_region_held_drew (S := fun w' => Ext wr w') (by kernel_rfl) ?_ (fun hHeld => ?_)
                · (repeat (first | exact Ext.refl _ | assumption | refine Ext.setCell ?_ (by first | (simp; done) | (simp; omega)) _ | refine Ext.drewN ?_ _ | refine Ext.alloc ?_ _ | refine Ext.drew ?_ | refine Ext.trans ?_ (by assumption)))
                refine wpAnyH_take (i := 0) (oi := ?o8x0) (v := ?v8x0) ?hi8x0 (by kernel_rfl) ?hf8x0 ?hr8x0 (fun _ _ _ h => h) ?hy8x0 (by assumption) ?rest8x0
                case hi8x0 => (simp only [List.getElem?_toArray, List.getElem?_cons_zero]; exact rfl)
                case hf8x0 => kernel_rfl
                case hr8x0 => kernel_rfl
                case hy8x0 => (refine Or.inl ⟨by rfl, ?_⟩; intro w hSw; (try dsimp only at hSw); go_simp; try with_reducible rfl)
                simp only [put_mk, List.set_cons_succ, List.set_cons_zero]
                refine wpAnyH_take (i := 1) (oi := ?o8x1) (v := ?v8x1) ?hi8x1 (by kernel_rfl) ?hf8x1 ?hr8x1 (fun _ _ _ h => h) ?hy8x1 (by assumption) ?rest8x1
                case hi8x1 => (simp only [List.getElem?_toArray, List.getElem?_cons_succ, List.getElem?_cons_zero]; exact rfl)
                case hf8x1 => kernel_rfl
                case hr8x1 => kernel_rfl
                case hy8x1 => (refine Or.inl ⟨by rfl, ?_⟩; intro w hSw; (try dsimp only at hSw); go_simp; try with_reducible rfl)
                simp only [put_mk, List.set_cons_succ, List.set_cons_zero]
                refine wpAnyH_take (i := 2) (oi := ?o8x2) (v := ?v8x2) ?hi8x2 (by kernel_rfl) ?hf8x2 ?hr8x2 (fun _ _ _ h => h) ?hy8x2 (by assumption) ?rest8x2
                case hi8x2 => (simp only [List.getElem?_toArray, List.getElem?_cons_succ, List.getElem?_cons_zero]; exact rfl)
                case hf8x2 => kernel_rfl
                case hr8x2 => kernel_rfl
                case hy8x2 => (refine Or.inl ⟨by rfl, ?_⟩; intro w hSw; (try dsimp only at hSw); go_simp; try with_reducible rfl)
                simp only [put_mk, List.set_cons_succ, List.set_cons_zero]
                refine wpAnyH_take (i := 3) (oi := ?o8x3) (v := ?v8x3) ?hi8x3 (by kernel_rfl) ?hf8x3 ?hr8x3 (fun _ _ _ h => h) ?hy8x3 (by assumption) ?rest8x3
                case hi8x3 => (simp only [List.getElem?_toArray, List.getElem?_cons_succ, List.getElem?_cons_zero]; exact rfl)
                case hf8x3 => kernel_rfl
                case hr8x3 => kernel_rfl
                case hy8x3 => (refine Or.inl ⟨by rfl, ?_⟩; intro w hSw; (try dsimp only at hSw); go_simp; try with_reducible rfl)
                simp only [put_mk, List.set_cons_succ, List.set_cons_zero]
                refine wpAnyH_take (i := 4) (oi := ?o8x4) (v := ?v8x4) ?hi8x4 (by kernel_rfl) ?hf8x4 ?hr8x4 (fun _ _ _ h => h) ?hy8x4 (by assumption) ?rest8x4
                case hi8x4 => (simp only [List.getElem?_toArray, List.getElem?_cons_succ, List.getElem?_cons_zero]; exact rfl)
                case hf8x4 => kernel_rfl
                case hr8x4 => kernel_rfl
                case hy8x4 => (refine Or.inl ⟨by rfl, ?_⟩; intro w hSw; (try dsimp only at hSw); go_simp; try with_reducible rfl)
                simp only [put_mk, List.set_cons_succ, List.set_cons_zero]
                refine wpAnyH_take (i := 5) (oi := ?o8x5) (v := ?v8x5) ?hi8x5 (by kernel_rfl) ?hf8x5 ?hr8x5 (fun _ _ _ h => h) ?hy8x5 (by assumption) ?rest8x5
                case hi8x5 => (simp only [List.getElem?_toArray, List.getElem?_cons_succ, List.getElem?_cons_zero]; exact rfl)
                case hf8x5 => kernel_rfl
                case hr8x5 => kernel_rfl
                case hy8x5 => (refine Or.inl ⟨by rfl, ?_⟩; intro w hSw; (try dsimp only at hSw); go_simp; try with_reducible rfl)
                simp only [put_mk, List.set_cons_succ, List.set_cons_zero]
                refine wpAnyH_ready (rs := [6]) (by kernel_rfl) (by simp) ?_
                refine AllReadyH.cons (o := ?o8x6) ?hi8x6 (fun K hK => ?_) AllReadyH.nil
                case hi8x6 => (simp only [List.getElem?_toArray, List.getElem?_cons_succ, List.getElem?_cons_zero]; exact rfl)
                go_simp
                go_at_call 7
                refine ((HPq _ (by repeat (first | exact Ext.refl _ | assumption | refine Ext.setCell ?_ (by first | (simp; done) | (simp; omega)) _ | refine Ext.drewN ?_ _ | refine Ext.alloc ?_ _ | refine Ext.drew ?_ | refine Ext.trans ?_ (by assumption)))).out).mono ?_
                rintro e wp ⟨rfl, hxp⟩
                refine hK.out _ _ ?_ (fun hHeld => ?_)
                · (repeat (first | exact Ext.refl _ | assumption | refine Ext.setCell ?_ (by first | (simp; done) | (simp; omega)) _ | refine Ext.drewN ?_ _ | refine Ext.alloc ?_ _ | refine Ext.drew ?_ | refine Ext.trans ?_ (by assumption)))
                clear hK K
                refine wpAnyH_take (i := 7) (oi := ?o8x7) (v := ?v8x7) ?hi8x7 (by kernel_rfl) ?hf8x7 ?hr8x7 (fun _ _ _ h => h) ?hy8x7 (by assumption) ?rest8x7
                case hi8x7 => (simp only [List.getElem?_toArray, List.getElem?_cons_succ, List.getElem?_cons_zero]; exact rfl)
                case hf8x7 => kernel_rfl
                case hr8x7 => kernel_rfl
                case hy8x7 => (refine Or.inl ⟨by rfl, ?_⟩; intro w hSw; (try dsimp only at hSw); go_simp; try with_reducible rfl)
                simp only [put_mk, List.set_cons_succ, List.set_cons_zero]
                refine wpAnyH_take (i := 8) (oi := ?o8x8) (v := ?v8x8) ?hi8x8 (by kernel_rfl) ?hf8x8 ?hr8x8 (fun _ _ _ h => h) ?hy8x8 (by assumption) ?rest8x8
                case hi8x8 => (simp only [List.getElem?_toArray, List.getElem?_cons_succ, List.getElem?_cons_zero]; exact rfl)
                case hf8x8 => kernel_rfl
                case hr8x8 => kernel_rfl
                case hy8x8 => (refine Or.inl ⟨by rfl, ?_⟩; intro w hSw; (try dsimp only at hSw); go_simp; try with_reducible rfl)
                simp only [put_mk, List.set_cons_succ, List.set_cons_zero]
                refine wpAnyH_take (i := 9) (oi := ?o8x9) (v := ?v8x9) ?hi8x9 (by kernel_rfl) ?hf8x9 ?hr8x9 (fun _ _ _ h => h) ?hy8x9 (by assumption) ?rest8x9
                case hi8x9 => (simp only [List.getElem?_toArray, List.getElem?_cons_succ, List.getElem?_cons_zero]; exact rfl)
                case hf8x9 => kernel_rfl
                case hr8x9 => kernel_rfl
                case hy8x9 => (refine Or.inl ⟨by rfl, ?_⟩; intro w hSw; (try dsimp only at hSw); go_simp; try with_reducible rfl)
                simp only [put_mk, List.set_cons_succ, List.set_cons_zero]
                refine wpAnyH_take (i := 10) (oi := ?o8x10) (v := ?v8x10) ?hi8x10 (by kernel_rfl) ?hf8x10 ?hr8x10 (fun _ _ _ h => h) ?hy8x10 (by assumption) ?rest8x10
                case hi8x10 => (simp only [List.getElem?_toArray, List.getElem?_cons_succ, List.getElem?_cons_zero]; exact rfl)
                case hf8x10 => kernel_rfl
                case hr8x10 => kernel_rfl
                case hy8x10 => (refine Or.inl ⟨by rfl, ?_⟩; intro w hSw; (try dsimp only at hSw); go_simp; try with_reducible rfl)
                simp only [put_mk, List.set_cons_succ, List.set_cons_zero]
                refine wpAnyH_take (i := 11) (oi := ?o8x11) (v := ?v8x11) ?hi8x11 (by kernel_rfl) ?hf8x11 ?hr8x11 (fun _ _ _ h => h) ?hy8x11 (by assumption) ?rest8x11
                case hi8x11 => (simp only [List.getElem?_toArray, List.getElem?_cons_succ, List.getElem?_cons_zero]; exact rfl)
                case hf8x11 => kernel_rfl
                case hr8x11 => kernel_rfl
                case hy8x11 => (refine Or.inl ⟨by rfl, ?_⟩; intro w hSw; (try dsimp only at hSw); go_simp; try with_reducible rfl)
                simp only [put_mk, List.set_cons_succ, List.set_cons_zero]
                refine wpAnyH_done (by kernel_rfl) ?_ _
                refine NoPanic.normal ?_
                go_upto_region 21 with fail
                have hx5 := hx.trans hHeld
                clear f0 f1 f2 f3 f4 r0 r1 r2 r3 r4 r5 HPq hx
                go_wp2
                go_roundw
                case rel => exact ⟨i + 1, Hiq.out, (by first | rfl | go_num), hx5⟩
                case measure => first | exact nx_tw Hiq.out hq6 | exact nxt_tw Hiq.out
              · obtain rfl : i = q := by omega
                go_wp2
                go_ret
                exact ⟨rfl, hx0.trans (Hxwp.out.trans hx)⟩

theorem tw_walk (X Y W H : Int) (A : Option Addr) (n c : Nat) (lf : List Nat) (gr wt br de : Nat) (sp : Int) (C : Option Addr) (m cc : Nat) (X' Y' W' H' : Int) (l : List Nat) (ax ay dx dy bx by' : Int) (w : World) (hn : lf.length = n) (hV : Rd w A (flt lf)) (hb : n ≤ 140737488351232) (hC : CoP w C m X' Y' W' H' l) (hm : m ≤ 140737488351232) :
    Calls Try.prog 3 #[.agg #[.int .i64 X, .int .i64 Y, .int .i64 W, .int .i64 H, .slice A n c], .agg #[.float .f32 gr, .float .f32 wt, .float .f32 br, .float .f32 de, .int .i64 sp, .slice C m cc], .agg #[.int .i64 ax, .int .i64 ay], .agg #[.int .i64 dx, .int .i64 dy], .agg #[.int .i64 bx, .int .i64 by']] w fun e w' => e = .returned (.bool true) ∧ Ext w w' := by
  by_cases hg : grndE X Y W H lf gr wt br de sp m X' Y' W' H' l = 0
  · obtain ⟨Wn, Hn, R, rfl, rfl, hr, hl, hh, rfl, rfl, rfl, rfl, rfl, hR, hCo, hm1⟩ := grnd_ok hg hC
    by_cases hin : InR X Y Wn Hn ax ay ∧ InR X Y Wn Hn dx dy
    · obtain ⟨k, hk, rfl, rfl⟩ := inR_cell hin.1
      obtain ⟨t, ht, rfl, rfl⟩ := inR_cell hin.2
      exact tw_good X Y Wn Hn A n c R C m cc k t lf X' Y' W' H' l bx by' w hr (by omega) (by rw [← hn, hl]; exact hR) hn (by rw [← hn, hl]; exact hh) (by omega) (by omega) hV hCo hC hm hg
    · have hi : insE X Y Wn Hn [(ax, ay), (dx, dy)] = 5 := by
        unfold insE
        rw [if_neg]
        simpa using hin
      refine tw_bad X Y Wn Hn A n c R.gr R.wt R.br R.de R.sp C m cc ax ay dx dy bx by' w 5 (by decide) (fun w' h => ?_)
      have h9 := Way_out X Y Wn Hn A n c lf R.gr R.wt R.br R.de R.sp C m cc X' Y' W' H' l ax ay dx dy w' hr hn (hV.ext h) hb (hC.ext h) hm hg (by rw [hi]; decide)
      rw [hi] at h9
      refine hidA (h9.mono ?_)
      rintro e w'' ⟨rfl, h1⟩
      exact ⟨_, _, _, _, rfl, h1⟩
  · refine tw_bad X Y W H A n c gr wt br de sp C m cc ax ay dx dy bx by' w _ hg (fun w' h => hidA ((Way_bad X Y W H A n c lf gr wt br de sp C m cc X' Y' W' H' l ax ay dx dy w' hn (hV.ext h) hb (hC.ext h) hm hg).mono ?_))
    rintro e w'' ⟨rfl, h1⟩
    exact ⟨_, _, _, _, rfl, h1⟩
end Go.Proofs.Ytbjomkidjccdoaa
