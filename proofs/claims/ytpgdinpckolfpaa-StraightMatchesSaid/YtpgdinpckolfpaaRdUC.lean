/- The law StraightMatches where steps lead between all corners. -/
import Derived.Test.YtpgdinpckolfpaaRdUB
import Derived.Test.YtpgdinpckolfpaaRdZ
namespace Go.Proofs.Ytpgdinpckolfpaa
open Go.RowKit
attribute [local go_sem ↓] Go.wp_at_zero Go.wp_at_succ
attribute [local go_sem] run_store_float

/-- how many places there are at corner i -/
def manyN (l : List (Int × Int)) (i : Nat) : Nat := if i = 0 then 1 else (outL l (i - 1)).length
theorem manyN_next (l : List (Int × Int)) {i : Nat} (h : 0 < i) : manyN l (i + 1) = manyN l i + (lpo l i).2 := by
  unfold manyN
  rw [if_neg (by omega), if_neg (by omega), Nat.add_sub_cancel]
  obtain ⟨j, rfl⟩ : ∃ j, i = j + 1 := ⟨i - 1, by omega⟩
  rw [outL_length, Nat.add_sub_cancel]
theorem manyN_le {l : List (Int × Int)} (hok : StrOk l) : ∀ i, i ≤ l.length → manyN l i ≤ 1 + i * 8388608
  | 0, _ => by
    rw [show manyN l 0 = 1 from rfl]
    omega
  | i + 1, h => by
    have ih := manyN_le hok i (by omega)
    rcases Nat.eq_zero_or_pos i with rfl | h0
    · show manyN l 1 ≤ _
      have : manyN l 1 = 1 := rfl
      omega
    · rw [manyN_next l h0]
      have := (hok.st i h0 (by omega)).2.2.2
      omega
theorem many_w {a m i : Nat} (h1 : a ≤ 1 + i * 8388608) (h2 : i ≤ 65536) (h3 : m ≤ 8388608) : wrap64 ((a : Int) + (m : Int)) = ((a + m : Nat) : Int) := by
  rw [IntWalk.wrap64_in _ ⟨by omega, by omega⟩]; omega
theorem nx_s {j q : Nat} (h1 : j + 1 < q) : q - (intOf (.int .i64 ((j : Int) + 1 + 1))).toNat < q - (intOf (.int .i64 ((j + 1 : Nat) : Int))).toNat := by
  simp [intOf]
  omega
theorem within_ok {x y : Int} (h : farP (x, y) = false) : (decide (-4194304 ≤ x) && decide (x ≤ 4194304)) = true ∧ (decide (-4194304 ≤ y) && decide (y ≤ 4194304)) = true := by
  have := farP_false h
  dsimp only at this
  simp
  omega
set_option maxRecDepth 100000 in
set_option maxHeartbeats 6400000 in
theorem straight_good (A : Option Addr) (n c : Nat) (l : List (Int × Int)) (w : World) (hn : l.length = n) (hV : Rd w A (ptv l)) (hnc : n ≤ c) (h0 : amtS n = 0) (hok : StrOk l) :
    Calls Try.prog 7 #[.slice A n c] w fun e w' => e = .returned (.bool true) ∧ Ext w w' := by
  have HSt : Hid (Calls Try.prog 34 #[.slice A n c] w fun e w' => ∃ (v : Value) (ev : Int), e = .returned (.tuple #[v, .int .i64 ev]) ∧ Ext w w' ∧ (65536 < (outL l (n - 1)).length ∧ v = .slice none 0 0 ∧ ev = 4 ∨ (outL l (n - 1)).length ≤ 65536 ∧ ev = 0 ∧ OwnP w' w.heap.size v (outL l (n - 1)))) := hidA ((Straight_ok A n c l w hn hV hnc h0 hok).mono (by
    rintro e w' ⟨h1, ⟨h2, rfl⟩ | ⟨h2, v, rfl, h3⟩⟩
    · exact ⟨_, _, rfl, h1, .inl ⟨h2, rfl, rfl⟩⟩
    · exact ⟨_, _, rfl, h1, .inr ⟨h2, rfl, h3⟩⟩))
  have HWf := fun (k : Int) (w : World) => hidA (show Calls Try.prog 19 #[.bool false, .int .i64 k] w fun e w' => e = .returned (.int .i64 0) ∧ w = w' from when_any false k w)
  have HS0 := fun (B : Option Addr) (w : World) (h : Rd w B [.int .i64 0, .int .i64 0]) => hidA (show Calls Try.prog 17 #[.slice B 2 2] w fun e w' => e = .returned (.int .i64 0) ∧ w = w' from first_any B 2 2 [0, 0] w rfl h (by omega))
  have HL := fun (w : World) => hidA (leads_any w)
  have HWh := fun (b : Bool) (k : Int) (w : World) => hidA (when_any b k w)
  have HS2 := fun (a b : Int) (B : Option Addr) (w : World) (h : Rd w B [.int .i64 a, .int .i64 b]) => hidA (first_any B 2 2 [a, b] w rfl h (by omega))
  have HWi := fun (x lo hi : Int) (w : World) => hidA (within_any x lo hi w)
  have HBt := fun (qx qy px py : Int) (w : World) (h1 : farP (qx, qy) = false) (h2 : farP (px, py) = false) => hidA (Leap_any qx qy px py w (by have := farP_false h1; dsimp only at this; omega) (by have := farP_false h1; dsimp only at this; omega) (by have := farP_false h2; dsimp only at this; omega) (by have := farP_false h2; dsimp only at this; omega))
  have HSp := fun (d : Nat) (w : World) (h : d < 8) => hidA (step_any d w (by omega) (by omega))
  have Hn := hidA hn
  have Hok := hidA hok
  have HMl := hidA (fun i (h : i ≤ n) => manyN_le hok i (by omega))
  have hn6 : n ≤ 65536 := by have := hok.le; omega
  have hn1 : 1 ≤ n := by have := hok.pos; omega
  have b0 : ((n : Int) == 0) = false := by simp; omega
  have b1 : decide ((65536 : Int) < (n : Int)) = false := by simp; omega
  obtain ⟨ti, hi0, hz0, hz1, hz2⟩ := info_parts infoPt
  clear h0 hn hok
  go_enter Try.func7, Try.ntmps7
  go_upto_region 3 with (first | (go_at_call 34; refine HSt.out.mono ?_; rintro e w1 ⟨v, ev, rfl, hx1, hcs⟩) | (go_at_call 19; refine ((HWf _ _).out).mono ?_; rintro e w7 ⟨rfl, hw7⟩; subst hw7) | (go_at_call 17; refine ((HS0 _ _ (Rd.new (by first | rfl | simp) (by first | rfl | simp))).out).mono ?_; rintro e w8 ⟨rfl, hw8⟩; subst hw8))
  have hx2 := hx1.alloc (.cells #[.int .i64 0, .int .i64 0] 33)
  have Hcs := hidA (show (65536 < (outL l (n - 1)).length ∧ v = .slice none 0 0 ∧ ev = 4 ∨ (outL l (n - 1)).length ≤ 65536 ∧ ev = 0 ∧ OwnP (w1.alloc (.cells #[.int .i64 0, .int .i64 0] 33)) w.heap.size v (outL l (n - 1))) from by
    rcases hcs with h | ⟨h1, h2, h3⟩
    · exact .inl h
    · exact .inr ⟨h1, h2, h3.ext ((Ext.refl w1).alloc _)⟩)
  clear HSt hcs hx1 b0 b1
  generalize w1.alloc (.cells #[.int .i64 0, .int .i64 0] 33) = w2 at *
  go_upto_region 6 with fail
  go_loopw [5, 7, 35] (fun s5 s7 s35 wr => ∃ i : Nat, i ≤ n ∧ s35 = .int .i64 i ∧ s5 = .int .i64 0 ∧ s7 = .int .i64 (manyN l i : Nat) ∧ Ext w2 wr) (fun _ _ s35 _ => n - (intOf s35).toNat)
  case atStart => exact ⟨0, Nat.zero_le _, rfl, rfl, rfl, Ext.refl _⟩
  case round =>
    obtain ⟨k, hk, rfl, rfl, rfl, hxk⟩ := hrel
    have hx := hx2.trans hxk
    by_cases hkn : k < n
    · have Hkn := hidA hkn
      have hkl : k < l.length := by have := Hn.out; omega
      obtain ⟨ad, rfl, hbk, d0, d1⟩ := pt_at (hV.ext hx) hkl
      have i0 : (0 : Int) ≤ k := by omega
      have i1 : (k : Int) < n := by omega
      obtain ⟨px, py, hpp⟩ : ∃ px py, l.getD k (0, 0) = (px, py) := ⟨_, _, rfl⟩
      rw [hpp] at d0 d1
      dsimp only at d0 d1
      have Hpp := hidA hpp
      have hb := Hok.out.ok k hkl
      rw [hpp] at hb
      have hwx := (within_ok hb).1
      have hwy := (within_ok hb).2
      have hfp := farP_false hb
      dsimp only at hfp
      obtain ⟨fp1, fp2, fp3, fp4⟩ := hfp
      have Hb := hidA hb
      have Hmk := hidA (HMl.out k hk)
      clear hb hpp
      go_upto_region 8 with fail
      have kP : Bk (wr.alloc (.cells #[.int .i64 px, .int .i64 py] 32)) wr.heap.size 32 #[.int .i64 px, .int .i64 py] := Bk.new' rfl
      have hx1 := hx.alloc (.cells #[.int .i64 px, .int .i64 py] 32)
      have hxk1 := hxk.alloc (.cells #[.int .i64 px, .int .i64 py] 32)
      clear d0 d1 hx hxk
      generalize wr.alloc (.cells #[.int .i64 px, .int .i64 py] 32) = w1 at *
      generalize wr.heap.size = ha at *
      have p0 := kP.cell 0
      have p1 := kP.cell 1
      by_cases hk0 : k = 0
      · subst hk0
        go_wp2_with (first | (go_at_call 35; refine ((HWi _ _ _ _).out).mono ?_; rintro e w7 ⟨rfl, hw7⟩; subst hw7) | (go_at_call 19; refine ((HWf _ _).out).mono ?_; rintro e w7 ⟨rfl, hw7⟩; subst hw7) | (go_at_call 17; refine ((HS0 _ _ (Rd.new (by first | rfl | simp) (by first | rfl | simp))).out).mono ?_; rintro e w8 ⟨rfl, hw8⟩; subst hw8))
        go_roundw
        case rel => exact ⟨1, Hkn.out, rfl, rfl, rfl, (by repeat (first | exact Ext.refl _ | assumption | refine Ext.setCell ?_ (by first | (simp; done) | (simp; omega)) _ | refine Ext.drewN ?_ _ | refine Ext.alloc ?_ _ | refine Ext.drew ?_ | refine Ext.trans ?_ (by assumption)))⟩
        case measure => have := Hkn.out; simp [intOf]; omega
      · have hkl1 : k - 1 < l.length := by omega
        have hfq := Hok.out.ok (k - 1) hkl1
        have hst := Hok.out.st k (by omega) hkl
        obtain ⟨qx, qy, hqq⟩ : ∃ qx qy, l.getD (k - 1) (0, 0) = (qx, qy) := ⟨_, _, rfl⟩
        rw [hqq] at hfq hst
        rw [Hpp.out] at hst
        dsimp only at hst
        have HB1 := fun (w : World) => HBt qx qy px py w hfq Hb.out
        have Hqq := hidA hqq
        have Hmn := hidA (manyN_next l (i := k) (by omega))
        have e0 : ∀ w', Ext w1 w' → w'.cell? (ad.add ((k - 1) * 2)) = some (.int .i64 qx) := fun w' h => by
          obtain ⟨ad', e, _, d0, _⟩ := pt_at (hV.ext (hx1.trans h)) hkl1
          injection e with e
          subst e
          rw [Hqq.out] at d0
          exact d0
        have e1 : ∀ w', Ext w1 w' → w'.cell? ⟨(ad.add ((k - 1) * 2)).block, (ad.add ((k - 1) * 2)).off + 1, none⟩ = some (.int .i64 qy) := fun w' h => by
          obtain ⟨ad', e, _, _, d1⟩ := pt_at (hV.ext (hx1.trans h)) hkl1
          injection e with e
          subst e
          rw [Hqq.out] at d1
          exact d1
        have f0 : ∀ w', Ext w1 w' → w'.cell? ⟨ha, 0, none⟩ = some (.int .i64 px) := fun w' h => (kP.ext h).cell 0
        have f1 : ∀ w', Ext w1 w' → w'.cell? ⟨ha, 1, none⟩ = some (.int .i64 py) := fun w' h => (kP.ext h).cell 1
        have j0 : (0 : Int) ≤ ((k - 1 : Nat) : Int) := by omega
        have j1 : ((k - 1 : Nat) : Int) < n := by omega
        have hk0' : ¬ (k : Int) = 0 := by omega
        have hk0b : ((k : Int) == 0) = false := by simp; omega
        have Hwk := hidA (show wrap64 ((k : Int) - 1) = ((k - 1 : Nat) : Int) by rw [IntWalk.wrap64_in _ ⟨by omega, by omega⟩]; omega)
        have Hwk2 := hidA (show IntKind.i64.wrap ((k : Int) - 1) = ((k - 1 : Nat) : Int) by rw [IntWalk.i64_in _ ⟨by omega, by omega⟩]; omega)
        obtain ⟨d, m, hdm⟩ : ∃ d m, lpo l k = (d, m) := ⟨_, _, rfl⟩
        rw [hdm] at hst Hmn
        dsimp only at hst Hmn
        obtain ⟨hs1, hd8, hm1, hm2⟩ := hst
        unfold lpV at HB1
        rw [hs1] at HB1
        simp only [] at HB1
        have hm0 : ¬ (m : Int) = 0 := by omega
        have hmb : ((m : Int) == 0) = false := by simp; omega
        have hkp : (0 : Int) < k := by omega
        have hkpb : decide ((0 : Int) < (k : Int)) = true := by simpa using hkp
        have Hmw := hidA (many_w Hmk.out (by omega) hm2)
        clear hqq hfq HBt hk hkl hs1 hdm
        go_upto_region 9 with (first | (go_at_call 35; refine ((HWi _ _ _ _).out).mono ?_; rintro e w7 ⟨rfl, hw7⟩; subst hw7) | (go_at_call 19; refine ((HWf _ _).out).mono ?_; rintro e w7 ⟨rfl, hw7⟩; subst hw7) | (go_at_call 17; refine ((HS0 _ _ (Rd.new (by first | rfl | simp) (by first | rfl | simp))).out).mono ?_; rintro e w8 ⟨rfl, hw8⟩; subst hw8))
        go_upto_region 11 with fail
        have wk := Hwk.out
        have wk2 := Hwk2.out
        refine wp_region_noPanic ?_
        refine wp_region_held_drew (S := fun w' => Ext w1 w') (by kernel_rfl) ?_ (fun hHeld => ?_)
        · (repeat (first | exact Ext.refl _ | assumption | refine Ext.setCell ?_ (by first | (simp; done) | (simp; omega)) _ | refine Ext.drewN ?_ _ | refine Ext.alloc ?_ _ | refine Ext.drew ?_ | refine Ext.trans ?_ (by assumption)))
        refine wpAnyH_take (i := 0) (oi := ?o1x0) (v := ?v1x0) ?hi1x0 (by kernel_rfl) ?hf1x0 ?hr1x0 (fun _ _ _ h => h) ?hy1x0 (by assumption) ?rest1x0
        case hi1x0 => (simp only [List.getElem?_toArray, List.getElem?_cons_zero]; exact rfl)
        case hf1x0 => kernel_rfl
        case hr1x0 => kernel_rfl
        case hy1x0 => (refine Or.inl ⟨by rfl, ?_⟩; intro w hSw; (try dsimp only at hSw); go_simp; try with_reducible rfl)
        simp only [put_mk, List.set_cons_succ, List.set_cons_zero]
        refine wpAnyH_take (i := 1) (oi := ?o1x1) (v := ?v1x1) ?hi1x1 (by kernel_rfl) ?hf1x1 ?hr1x1 (fun _ _ _ h => h) ?hy1x1 (by assumption) ?rest1x1
        case hi1x1 => (simp only [List.getElem?_toArray, List.getElem?_cons_succ, List.getElem?_cons_zero]; exact rfl)
        case hf1x1 => kernel_rfl
        case hr1x1 => kernel_rfl
        case hy1x1 => (refine Or.inl ⟨by rfl, ?_⟩; intro w hSw; (try dsimp only at hSw); go_simp; try with_reducible rfl)
        simp only [put_mk, List.set_cons_succ, List.set_cons_zero]
        refine wpAnyH_take (i := 2) (oi := ?o1x2) (v := ?v1x2) ?hi1x2 (by kernel_rfl) ?hf1x2 ?hr1x2 (fun _ _ _ h => h) ?hy1x2 (by assumption) ?rest1x2
        case hi1x2 => (simp only [List.getElem?_toArray, List.getElem?_cons_succ, List.getElem?_cons_zero]; exact rfl)
        case hf1x2 => kernel_rfl
        case hr1x2 => kernel_rfl
        case hy1x2 => (refine Or.inl ⟨by rfl, ?_⟩; intro w hSw; (try dsimp only at hSw); go_simp; try with_reducible rfl)
        simp only [put_mk, List.set_cons_succ, List.set_cons_zero]
        refine wpAnyH_take (i := 3) (oi := ?o1x3) (v := ?v1x3) ?hi1x3 (by kernel_rfl) ?hf1x3 ?hr1x3 (fun _ _ _ h => h) ?hy1x3 (by assumption) ?rest1x3
        case hi1x3 => (simp only [List.getElem?_toArray, List.getElem?_cons_succ, List.getElem?_cons_zero]; exact rfl)
        case hf1x3 => kernel_rfl
        case hr1x3 => kernel_rfl
        case hy1x3 => (refine Or.inl ⟨by rfl, ?_⟩; intro w hSw; (try dsimp only at hSw); go_simp; try with_reducible rfl)
        simp only [put_mk, List.set_cons_succ, List.set_cons_zero]
        refine wpAnyH_take (i := 4) (oi := ?o1x4) (v := ?v1x4) ?hi1x4 (by kernel_rfl) ?hf1x4 ?hr1x4 (fun _ _ _ h => h) ?hy1x4 (by assumption) ?rest1x4
        case hi1x4 => (simp only [List.getElem?_toArray, List.getElem?_cons_succ, List.getElem?_cons_zero]; exact rfl)
        case hf1x4 => kernel_rfl
        case hr1x4 => kernel_rfl
        case hy1x4 => (refine Or.inl ⟨by rfl, ?_⟩; intro w hSw; (try dsimp only at hSw); go_simp; try with_reducible rfl)
        simp only [put_mk, List.set_cons_succ, List.set_cons_zero]
        refine wpAnyH_take (i := 5) (oi := ?o1x5) (v := ?v1x5) ?hi1x5 (by kernel_rfl) ?hf1x5 ?hr1x5 (fun _ _ _ h => h) ?hy1x5 (by assumption) ?rest1x5
        case hi1x5 => (simp only [List.getElem?_toArray, List.getElem?_cons_succ, List.getElem?_cons_zero]; exact rfl)
        case hf1x5 => kernel_rfl
        case hr1x5 => kernel_rfl
        case hy1x5 => (refine Or.inl ⟨by rfl, ?_⟩; intro w hSw; (try dsimp only at hSw); go_simp; try with_reducible rfl)
        simp only [put_mk, List.set_cons_succ, List.set_cons_zero]
        refine wpAnyH_ready (rs := [6]) (by kernel_rfl) (by simp) ?_
        refine AllReadyH.cons (o := ?o1x6) ?hi1x6 (fun K hK => ?_) AllReadyH.nil
        case hi1x6 => (simp only [List.getElem?_toArray, List.getElem?_cons_succ, List.getElem?_cons_zero]; exact rfl)
        go_simp
        go_at_call 36
        refine ((HB1 _).out).mono ?_
        rintro e wb ⟨rfl, hxb⟩
        refine hK.out _ _ ?_ (fun hHeld => ?_)
        · (repeat (first | exact Ext.refl _ | assumption | refine Ext.setCell ?_ (by first | (simp; done) | (simp; omega)) _ | refine Ext.drewN ?_ _ | refine Ext.alloc ?_ _ | refine Ext.drew ?_ | refine Ext.trans ?_ (by assumption)))
        clear hK K
        refine wpAnyH_take (i := 7) (oi := ?o1x7) (v := ?v1x7) ?hi1x7 (by kernel_rfl) ?hf1x7 ?hr1x7 (fun _ _ _ h => h) ?hy1x7 (by assumption) ?rest1x7
        case hi1x7 => (simp only [List.getElem?_toArray, List.getElem?_cons_succ, List.getElem?_cons_zero]; exact rfl)
        case hf1x7 => kernel_rfl
        case hr1x7 => kernel_rfl
        case hy1x7 => (refine Or.inl ⟨by rfl, ?_⟩; intro w hSw; (try dsimp only at hSw); go_simp; try with_reducible rfl)
        simp only [put_mk, List.set_cons_succ, List.set_cons_zero]
        refine wpAnyH_take (i := 8) (oi := ?o1x8) (v := ?v1x8) ?hi1x8 (by kernel_rfl) ?hf1x8 ?hr1x8 (fun _ _ _ h => h) ?hy1x8 (by assumption) ?rest1x8
        case hi1x8 => (simp only [List.getElem?_toArray, List.getElem?_cons_succ, List.getElem?_cons_zero]; exact rfl)
        case hf1x8 => kernel_rfl
        case hr1x8 => kernel_rfl
        case hy1x8 => (refine Or.inl ⟨by rfl, ?_⟩; intro w hSw; (try dsimp only at hSw); go_simp; try with_reducible rfl)
        simp only [put_mk, List.set_cons_succ, List.set_cons_zero]
        refine wpAnyH_take (i := 9) (oi := ?o1x9) (v := ?v1x9) ?hi1x9 (by kernel_rfl) ?hf1x9 ?hr1x9 (fun _ _ _ h => h) ?hy1x9 (by assumption) ?rest1x9
        case hi1x9 => (simp only [List.getElem?_toArray, List.getElem?_cons_succ, List.getElem?_cons_zero]; exact rfl)
        case hf1x9 => kernel_rfl
        case hr1x9 => kernel_rfl
        case hy1x9 => (refine Or.inl ⟨by rfl, ?_⟩; intro w hSw; (try dsimp only at hSw); go_simp; try with_reducible rfl)
        simp only [put_mk, List.set_cons_succ, List.set_cons_zero]
        refine wpAnyH_take (i := 10) (oi := ?o1x10) (v := ?v1x10) ?hi1x10 (by kernel_rfl) ?hf1x10 ?hr1x10 (fun _ _ _ h => h) ?hy1x10 (by assumption) ?rest1x10
        case hi1x10 => (simp only [List.getElem?_toArray, List.getElem?_cons_succ, List.getElem?_cons_zero]; exact rfl)
        case hf1x10 => kernel_rfl
        case hr1x10 => kernel_rfl
        case hy1x10 => (refine Or.inl ⟨by rfl, ?_⟩; intro w hSw; (try dsimp only at hSw); go_simp; try with_reducible rfl)
        simp only [put_mk, List.set_cons_succ, List.set_cons_zero]
        refine wpAnyH_take (i := 11) (oi := ?o1x11) (v := ?v1x11) ?hi1x11 (by kernel_rfl) ?hf1x11 ?hr1x11 (fun _ _ _ h => h) ?hy1x11 (by assumption) ?rest1x11
        case hi1x11 => (simp only [List.getElem?_toArray, List.getElem?_cons_succ, List.getElem?_cons_zero]; exact rfl)
        case hf1x11 => kernel_rfl
        case hr1x11 => kernel_rfl
        case hy1x11 => (refine Or.inl ⟨by rfl, ?_⟩; intro w hSw; (try dsimp only at hSw); go_simp; try with_reducible rfl)
        simp only [put_mk, List.set_cons_succ, List.set_cons_zero]
        refine wpAnyH_done (by kernel_rfl) ?_ _
        refine NoPanic.normal ?_
        clear wk wk2 e0 e1 f0 f1
        have hmw := Hmw.out
        go_wp2_with (first | (go_at_call 19; refine ((HWf _ _).out).mono ?_; rintro e w7 ⟨rfl, hw7⟩; subst hw7) | (go_at_call 17; refine ((HS0 _ _ (Rd.new (by first | rfl | simp) (by first | rfl | simp))).out).mono ?_; rintro e w8 ⟨rfl, hw8⟩; subst hw8))
        clear hmw
        go_roundw
        case rel => exact ⟨k + 1, Hkn.out, (by first | rfl | go_num), rfl, (by rw [Hmn.out]; exact congrArg (Value.int IntKind.i64) (by first | exact Hmw.out | rfl | simp)), (by repeat (first | exact Ext.refl _ | assumption | refine Ext.setCell ?_ (by first | (simp; done) | (simp; omega)) _ | refine Ext.drewN ?_ _ | refine Ext.alloc ?_ _ | refine Ext.drew ?_ | refine Ext.trans ?_ (by assumption)))⟩
        case measure => exact nxt_k Hkn.out
    · obtain rfl : n = k := by omega
      have hmn : manyN l n = (outL l (n - 1)).length := by unfold manyN; rw [if_neg (by omega)]
      rw [hmn]
      have HO := hidA Hcs.out
      clear hk hkn
      by_cases hbig : 65536 < (outL l (n - 1)).length
      · obtain ⟨rfl, rfl⟩ : v = .slice none 0 0 ∧ ev = 4 := by
          rcases Hcs.out with ⟨_, h1, h2⟩ | ⟨h1, _⟩
          · exact ⟨h1, h2⟩
          · omega
        have hbi : (65536 : Int) < ((outL l (n - 1)).length : Nat) := by omega
        have hbd : decide ((65536 : Int) < ((outL l (n - 1)).length : Nat)) = true := by simpa using hbi
        have HWt := fun (w : World) => hidA (show Calls Try.prog 19 #[.bool true, .int .i64 4] w fun e w' => e = .returned (.int .i64 4) ∧ w = w' from when_any true 4 w)
        have HS4 := fun (B : Option Addr) (w : World) (h : Rd w B [.int .i64 0, .int .i64 4]) => hidA (show Calls Try.prog 17 #[.slice B 2 2] w fun e w' => e = .returned (.int .i64 4) ∧ w = w' from first_any B 2 2 [0, 4] w rfl h (by omega))
        clear hbig HO Hcs hmn
        go_wp2_with (first | (go_at_call 19; refine ((HWt _).out).mono ?_; rintro e w7 ⟨rfl, hw7⟩; subst hw7) | (go_at_call 17; refine ((HS4 _ _ (Rd.new (by first | rfl | simp) (by first | rfl | simp))).out).mono ?_; rintro e w8 ⟨rfl, hw8⟩; subst hw8) | (go_at_call 15; refine ((HL _).out).mono ?_; rintro e w9 ⟨rfl, hx9⟩))
        go_ret
        exact ⟨by first | rfl | simp, hx.trans (by repeat (first | exact Ext.refl _ | assumption | refine Ext.setCell ?_ (by first | (simp; done) | (simp; omega)) _ | refine Ext.drewN ?_ _ | refine Ext.alloc ?_ _ | refine Ext.drew ?_ | refine Ext.trans ?_ (by assumption)))⟩
      · obtain ⟨hsm, rfl, hOw⟩ : (outL l (n - 1)).length ≤ 65536 ∧ ev = 0 ∧ OwnP w2 w.heap.size v (outL l (n - 1)) := by
          rcases Hcs.out with ⟨h1, _⟩ | h1
          · omega
          · exact h1
        have hbi : ¬ (65536 : Int) < ((outL l (n - 1)).length : Nat) := by omega
        have hbd : decide ((65536 : Int) < ((outL l (n - 1)).length : Nat)) = false := by simpa using hbi
        have Hsm := hidA hsm
        have HOv := hidA (hOw.ext hxk)
        clear hbig HO Hcs hmn hOw hsm
        go_upto_region 18 with (first | (go_at_call 19; refine ((HWf _ _).out).mono ?_; rintro e w7 ⟨rfl, hw7⟩; subst hw7) | (go_at_call 17; refine ((HS0 _ _ (Rd.new (by first | rfl | simp) (by first | rfl | simp))).out).mono ?_; rintro e w8 ⟨rfl, hw8⟩; subst hw8) | (go_at_call 15; refine ((HL _).out).mono ?_; rintro e wB ⟨rfl, hxB⟩))
        have hxrB : Ext wr wB := (by repeat (first | exact Ext.refl _ | assumption | refine Ext.setCell ?_ (by first | (simp; done) | (simp; omega)) _ | refine Ext.drewN ?_ _ | refine Ext.alloc ?_ _ | refine Ext.drew ?_ | refine Ext.trans ?_ (by assumption)))
        have hxwB := hx.trans hxrB
        have HOv := hidA (HOv.out.ext hxrB)
        obtain ⟨adP, rfl, hbP, c0, c1⟩ := pt_at (hV.ext hxwB) (k := 0) (by have := Hn.out; omega)
        rw [Nat.zero_mul, show adP.add 0 = adP from rfl] at c0 c1
        obtain ⟨ax, ay, hpa⟩ : ∃ ax ay, l.getD 0 (0, 0) = (ax, ay) := ⟨_, _, rfl⟩
        have hhead : outL l 0 = [] ++ [(ax, ay)] := by rw [← hpa]; rfl
        rw [hpa] at c0 c1
        dsimp only at c0 c1
        have z0 : (0 : Int) < n := by omega
        have hxn : Ext wB (wB.alloc (.cells #[.int .i64 ax, .int .i64 ay] 32)) := (Ext.refl wB).alloc _
        have hownN := hidA (World.ownsRow_nil (wB.alloc (.cells #[.int .i64 ax, .int .i64 ay] 32)) wB.heap.size 32 2)
        have hnewN : Hid (∀ j u, ([.int .i64 ax, .int .i64 ay] : List Value)[j]? = some u → (wB.alloc (.cells #[.int .i64 ax, .int .i64 ay] 32)).cell? ((⟨wB.heap.size, 0, none⟩ : Addr).add j) = some u) := World.news_of_block (cs := #[.int .i64 ax, .int .i64 ay]) (t := 32) (fr := (0, 0)) (heap_alloc_new wB _)
        have honeN : Hid (∀ u ∈ ([.int .i64 ax, .int .i64 ay] : List Value), u.oneCell' = true) := by intro u hu; simp at hu; rcases hu with rfl | rfl <;> rfl
        have hsN := hidA (show wB.heap.size ≤ (wB.alloc (.cells #[.int .i64 ax, .int .i64 ay] 32)).heap.size from hxn.size)
        have Hxn := hidA hxn
        clear hx hxk hxrB hxB hpa hxn
        go_upto_region 19 with (at_builtin; (refine wpList_append_lies _ (by rfl) _ _ 46 (by rfl) wB.heap.size 32 ti (.agg #[.int .i64 0, .int .i64 0]) 2 16 Try.underlying46 hi0 hz0 hz1 hz2 (by rfl) (by decide) _ _ _ (by rfl) hownN.out ⟨wB.heap.size, 0, none⟩ 1 1 [.int .i64 ax, .int .i64 ay] (by rfl) (by rfl) hnewN.out honeN.out (by omega) (by unfold maxLen; omega) (by omega) hsN.out (wB.heap.size + 1) (by simp) ?_; intro gA capA wA hownA hgrowA hatA hltA))
        have hxA : Ext wB wA := Hxn.out.grown hgrowA (fun b hb => by cases hb)
        have hOA : OwnP wA wB.heap.size (.slice (some ⟨gA, 0, none⟩) (0 + 1) capA) (outL l 0) := by
          rw [hhead]
          exact OwnP.push (xs := []) hownA
        clear hownN hnewN honeN hsN Hxn hgrowA hatA hltA hownA hhead c0 c1 z0 hbP
        have hmono : ∀ i, i ≤ n - 1 → (outL l i).length ≤ 65536 := fun i hi => Nat.le_trans (outL_mono l hi) Hsm.out
        have Hmono := hidA hmono
        clear hmono
        go_wp2
        go_loopw [6, 12] (fun s6 s12 wz => ∃ i : Nat, i + 1 ≤ n ∧ s12 = .int .i64 ((i + 1 : Nat) : Int) ∧ OwnP wz wB.heap.size s6 (outL l i) ∧ Ext wB wz) (fun _ s12 _ => n - (intOf s12).toNat)
        case atStart => exact ⟨0, hn1, rfl, hOA, hxA⟩
        case round =>
          clear hOA hxA
          obtain ⟨i, hi, rfl, hO, hx⟩ := hrel
          have hxw := hxwB.trans hx
          by_cases hin : i + 1 < n
          · have Hin := hidA hin
            obtain ⟨ad1, e1, hb1, c0, c1⟩ := pt_at (hV.ext hxw) (k := i) (by have := Hn.out; omega)
            injection e1 with e1
            subst e1
            obtain ⟨ad2, e2, hb2, d0, d1⟩ := pt_at (hV.ext hxw) (k := i + 1) (by have := Hn.out; omega)
            injection e2 with e2
            subst e2
            have hst := Hok.out.st (i + 1) (by omega) (by have := Hn.out; omega)
            have hf1 := Hok.out.ok i (by have := Hn.out; omega)
            have hf2 := Hok.out.ok (i + 1) (by have := Hn.out; omega)
            rw [Nat.add_sub_cancel] at hst
            obtain ⟨px, py, hpp⟩ : ∃ px py, l.getD i (0, 0) = (px, py) := ⟨_, _, rfl⟩
            obtain ⟨qx, qy, hqq⟩ : ∃ qx qy, l.getD (i + 1) (0, 0) = (qx, qy) := ⟨_, _, rfl⟩
            obtain ⟨d, m, hdm⟩ : ∃ d m, lpo l (i + 1) = (d, m) := ⟨_, _, rfl⟩
            rw [hdm] at hst
            rw [hpp] at hst hf1 c0 c1
            rw [hqq] at hst hf2 d0 d1
            dsimp only at hst c0 c1 d0 d1
            obtain ⟨hs1, hd8, hm1, hm2⟩ := hst
            have HB1 := fun (w : World) => HBt px py qx qy w hf1 hf2
            unfold lpV at HB1
            rw [hs1] at HB1
            simp only [] at HB1
            have HSq := fun w => HSp d w hd8
            have Hpp := hidA hpp
            have Hlm := hidA (show (outL l i).length + m ≤ 65536 from by have h1 := Hmono.out (i + 1) (by omega); rw [outL_length, hdm] at h1; exact h1)
            have Hseg := hidA (show outL l (i + 1) = outL l i ++ segL (px, py) d m from by rw [outL, hdm, hpp])
            have Hfp := hidA (farP_false hf1)
            have i0 : (0 : Int) ≤ i := by omega
            have i1 : (i : Int) < n := by omega
            have i2 : (0 : Int) ≤ (i : Int) + 1 := by omega
            have i3 : (i : Int) + 1 < n := by omega
            have i4 : IntKind.i64.wrap (i : Int) = (i : Int) := IntWalk.i64_in _ (by omega)
            have c0' : ∀ w', Ext wr w' → w'.cell? (adP.add (i * 2)) = some (.int .i64 px) := fun w' h => (h.cell _ (by rw [add_block]; exact hb1)).trans c0
            have c1' : ∀ w', Ext wr w' → w'.cell? ⟨(adP.add (i * 2)).block, (adP.add (i * 2)).off + 1, none⟩ = some (.int .i64 py) := fun w' h => (h.cell ⟨(adP.add (i * 2)).block, (adP.add (i * 2)).off + 1, none⟩ (by show (adP.add (i * 2)).block < _; rw [add_block]; exact hb1)).trans c1
            have d0' : ∀ w', Ext wr w' → w'.cell? (adP.add ((i + 1) * 2)) = some (.int .i64 qx) := fun w' h => (h.cell _ (by rw [add_block]; exact hb1)).trans d0
            have d1' : ∀ w', Ext wr w' → w'.cell? ⟨(adP.add ((i + 1) * 2)).block, (adP.add ((i + 1) * 2)).off + 1, none⟩ = some (.int .i64 qy) := fun w' h => (h.cell ⟨(adP.add ((i + 1) * 2)).block, (adP.add ((i + 1) * 2)).off + 1, none⟩ (by show (adP.add ((i + 1) * 2)).block < _; rw [add_block]; exact hb1)).trans d1
            clear hpp hqq hdm hs1 hf1 hf2 hin hi c0 c1 d0 d1 hb1 hb2
            go_upto_region 22 with fail
            refine wp_region_noPanic ?_
            refine wp_region_held_drew (S := fun w' => Ext wr w') (by kernel_rfl) ?_ (fun hHeld => ?_)
            · (repeat (first | exact Ext.refl _ | assumption | refine Ext.setCell ?_ (by first | (simp; done) | (simp; omega)) _ | refine Ext.drewN ?_ _ | refine Ext.alloc ?_ _ | refine Ext.drew ?_ | refine Ext.trans ?_ (by assumption)))
            refine wpAnyH_take (i := 0) (oi := ?o2x0) (v := ?v2x0) ?hi2x0 (by kernel_rfl) ?hf2x0 ?hr2x0 (fun _ _ _ h => h) ?hy2x0 (by assumption) ?rest2x0
            case hi2x0 => (simp only [List.getElem?_toArray, List.getElem?_cons_zero]; exact rfl)
            case hf2x0 => kernel_rfl
            case hr2x0 => kernel_rfl
            case hy2x0 => (refine Or.inl ⟨by rfl, ?_⟩; intro w hSw; (try dsimp only at hSw); go_simp; try with_reducible rfl)
            simp only [put_mk, List.set_cons_succ, List.set_cons_zero]
            refine wpAnyH_take (i := 1) (oi := ?o2x1) (v := ?v2x1) ?hi2x1 (by kernel_rfl) ?hf2x1 ?hr2x1 (fun _ _ _ h => h) ?hy2x1 (by assumption) ?rest2x1
            case hi2x1 => (simp only [List.getElem?_toArray, List.getElem?_cons_succ, List.getElem?_cons_zero]; exact rfl)
            case hf2x1 => kernel_rfl
            case hr2x1 => kernel_rfl
            case hy2x1 => (refine Or.inl ⟨by rfl, ?_⟩; intro w hSw; (try dsimp only at hSw); go_simp; try with_reducible rfl)
            simp only [put_mk, List.set_cons_succ, List.set_cons_zero]
            refine wpAnyH_take (i := 2) (oi := ?o2x2) (v := ?v2x2) ?hi2x2 (by kernel_rfl) ?hf2x2 ?hr2x2 (fun _ _ _ h => h) ?hy2x2 (by assumption) ?rest2x2
            case hi2x2 => (simp only [List.getElem?_toArray, List.getElem?_cons_succ, List.getElem?_cons_zero]; exact rfl)
            case hf2x2 => kernel_rfl
            case hr2x2 => kernel_rfl
            case hy2x2 => (refine Or.inl ⟨by rfl, ?_⟩; intro w hSw; (try dsimp only at hSw); go_simp; try with_reducible rfl)
            simp only [put_mk, List.set_cons_succ, List.set_cons_zero]
            refine wpAnyH_take (i := 3) (oi := ?o2x3) (v := ?v2x3) ?hi2x3 (by kernel_rfl) ?hf2x3 ?hr2x3 (fun _ _ _ h => h) ?hy2x3 (by assumption) ?rest2x3
            case hi2x3 => (simp only [List.getElem?_toArray, List.getElem?_cons_succ, List.getElem?_cons_zero]; exact rfl)
            case hf2x3 => kernel_rfl
            case hr2x3 => kernel_rfl
            case hy2x3 => (refine Or.inl ⟨by rfl, ?_⟩; intro w hSw; (try dsimp only at hSw); go_simp; try with_reducible rfl)
            simp only [put_mk, List.set_cons_succ, List.set_cons_zero]
            refine wpAnyH_take (i := 4) (oi := ?o2x4) (v := ?v2x4) ?hi2x4 (by kernel_rfl) ?hf2x4 ?hr2x4 (fun _ _ _ h => h) ?hy2x4 (by assumption) ?rest2x4
            case hi2x4 => (simp only [List.getElem?_toArray, List.getElem?_cons_succ, List.getElem?_cons_zero]; exact rfl)
            case hf2x4 => kernel_rfl
            case hr2x4 => kernel_rfl
            case hy2x4 => (refine Or.inl ⟨by rfl, ?_⟩; intro w hSw; (try dsimp only at hSw); go_simp; try with_reducible rfl)
            simp only [put_mk, List.set_cons_succ, List.set_cons_zero]
            refine wpAnyH_take (i := 5) (oi := ?o2x5) (v := ?v2x5) ?hi2x5 (by kernel_rfl) ?hf2x5 ?hr2x5 (fun _ _ _ h => h) ?hy2x5 (by assumption) ?rest2x5
            case hi2x5 => (simp only [List.getElem?_toArray, List.getElem?_cons_succ, List.getElem?_cons_zero]; exact rfl)
            case hf2x5 => kernel_rfl
            case hr2x5 => kernel_rfl
            case hy2x5 => (refine Or.inl ⟨by rfl, ?_⟩; intro w hSw; (try dsimp only at hSw); go_simp; try with_reducible rfl)
            simp only [put_mk, List.set_cons_succ, List.set_cons_zero]
            refine wpAnyH_take (i := 6) (oi := ?o2x6) (v := ?v2x6) ?hi2x6 (by kernel_rfl) ?hf2x6 ?hr2x6 (fun _ _ _ h => h) ?hy2x6 (by assumption) ?rest2x6
            case hi2x6 => (simp only [List.getElem?_toArray, List.getElem?_cons_succ, List.getElem?_cons_zero]; exact rfl)
            case hf2x6 => kernel_rfl
            case hr2x6 => kernel_rfl
            case hy2x6 => (refine Or.inl ⟨by rfl, ?_⟩; intro w hSw; (try dsimp only at hSw); go_simp; try with_reducible rfl)
            simp only [put_mk, List.set_cons_succ, List.set_cons_zero]
            refine wpAnyH_take (i := 7) (oi := ?o2x7) (v := ?v2x7) ?hi2x7 (by kernel_rfl) ?hf2x7 ?hr2x7 (fun _ _ _ h => h) ?hy2x7 (by assumption) ?rest2x7
            case hi2x7 => (simp only [List.getElem?_toArray, List.getElem?_cons_succ, List.getElem?_cons_zero]; exact rfl)
            case hf2x7 => kernel_rfl
            case hr2x7 => kernel_rfl
            case hy2x7 => (refine Or.inl ⟨by rfl, ?_⟩; intro w hSw; (try dsimp only at hSw); go_simp; try with_reducible rfl)
            simp only [put_mk, List.set_cons_succ, List.set_cons_zero]
            refine wpAnyH_take (i := 8) (oi := ?o2x8) (v := ?v2x8) ?hi2x8 (by kernel_rfl) ?hf2x8 ?hr2x8 (fun _ _ _ h => h) ?hy2x8 (by assumption) ?rest2x8
            case hi2x8 => (simp only [List.getElem?_toArray, List.getElem?_cons_succ, List.getElem?_cons_zero]; exact rfl)
            case hf2x8 => kernel_rfl
            case hr2x8 => kernel_rfl
            case hy2x8 => (refine Or.inl ⟨by rfl, ?_⟩; intro w hSw; (try dsimp only at hSw); go_simp; try with_reducible rfl)
            simp only [put_mk, List.set_cons_succ, List.set_cons_zero]
            refine wpAnyH_ready (rs := [9]) (by kernel_rfl) (by simp) ?_
            refine AllReadyH.cons (o := ?o2x9) ?hi2x9 (fun K hK => ?_) AllReadyH.nil
            case hi2x9 => (simp only [List.getElem?_toArray, List.getElem?_cons_succ, List.getElem?_cons_zero]; exact rfl)
            go_simp
            go_at_call 36
            refine ((HB1 _).out).mono ?_
            rintro e wb ⟨rfl, hxb⟩
            refine hK.out _ _ ?_ (fun hHeld => ?_)
            · (repeat (first | exact Ext.refl _ | assumption | refine Ext.setCell ?_ (by first | (simp; done) | (simp; omega)) _ | refine Ext.drewN ?_ _ | refine Ext.alloc ?_ _ | refine Ext.drew ?_ | refine Ext.trans ?_ (by assumption)))
            clear hK K
            refine wpAnyH_take (i := 10) (oi := ?o2x10) (v := ?v2x10) ?hi2x10 (by kernel_rfl) ?hf2x10 ?hr2x10 (fun _ _ _ h => h) ?hy2x10 (by assumption) ?rest2x10
            case hi2x10 => (simp only [List.getElem?_toArray, List.getElem?_cons_succ, List.getElem?_cons_zero]; exact rfl)
            case hf2x10 => kernel_rfl
            case hr2x10 => kernel_rfl
            case hy2x10 => (refine Or.inl ⟨by rfl, ?_⟩; intro w hSw; (try dsimp only at hSw); go_simp; try with_reducible rfl)
            simp only [put_mk, List.set_cons_succ, List.set_cons_zero]
            refine wpAnyH_take (i := 11) (oi := ?o2x11) (v := ?v2x11) ?hi2x11 (by kernel_rfl) ?hf2x11 ?hr2x11 (fun _ _ _ h => h) ?hy2x11 (by assumption) ?rest2x11
            case hi2x11 => (simp only [List.getElem?_toArray, List.getElem?_cons_succ, List.getElem?_cons_zero]; exact rfl)
            case hf2x11 => kernel_rfl
            case hr2x11 => kernel_rfl
            case hy2x11 => (refine Or.inl ⟨by rfl, ?_⟩; intro w hSw; (try dsimp only at hSw); go_simp; try with_reducible rfl)
            simp only [put_mk, List.set_cons_succ, List.set_cons_zero]
            refine wpAnyH_take (i := 12) (oi := ?o2x12) (v := ?v2x12) ?hi2x12 (by kernel_rfl) ?hf2x12 ?hr2x12 (fun _ _ _ h => h) ?hy2x12 (by assumption) ?rest2x12
            case hi2x12 => (simp only [List.getElem?_toArray, List.getElem?_cons_succ, List.getElem?_cons_zero]; exact rfl)
            case hf2x12 => kernel_rfl
            case hr2x12 => kernel_rfl
            case hy2x12 => (refine Or.inl ⟨by rfl, ?_⟩; intro w hSw; (try dsimp only at hSw); go_simp; try with_reducible rfl)
            simp only [put_mk, List.set_cons_succ, List.set_cons_zero]
            refine wpAnyH_take (i := 13) (oi := ?o2x13) (v := ?v2x13) ?hi2x13 (by kernel_rfl) ?hf2x13 ?hr2x13 (fun _ _ _ h => h) ?hy2x13 (by assumption) ?rest2x13
            case hi2x13 => (simp only [List.getElem?_toArray, List.getElem?_cons_succ, List.getElem?_cons_zero]; exact rfl)
            case hf2x13 => kernel_rfl
            case hr2x13 => kernel_rfl
            case hy2x13 => (refine Or.inl ⟨by rfl, ?_⟩; intro w hSw; (try dsimp only at hSw); go_simp; try with_reducible rfl)
            simp only [put_mk, List.set_cons_succ, List.set_cons_zero]
            refine wpAnyH_take (i := 14) (oi := ?o2x14) (v := ?v2x14) ?hi2x14 (by kernel_rfl) ?hf2x14 ?hr2x14 (fun _ _ _ h => h) ?hy2x14 (by assumption) ?rest2x14
            case hi2x14 => (simp only [List.getElem?_toArray, List.getElem?_cons_succ, List.getElem?_cons_zero]; exact rfl)
            case hf2x14 => kernel_rfl
            case hr2x14 => kernel_rfl
            case hy2x14 => (refine Or.inl ⟨by rfl, ?_⟩; intro w hSw; (try dsimp only at hSw); go_simp; try with_reducible rfl)
            simp only [put_mk, List.set_cons_succ, List.set_cons_zero]
            refine wpAnyH_done (by kernel_rfl) ?_ _
            refine NoPanic.normal ?_
            have hO5 := hO.ext hHeld
            have hx5 := hx.trans hHeld
            clear c0' c1' d0' d1' hO hx HB1 hxw
            go_upto_region 24 with (go_at_call 37; refine ((HSq _).out).mono ?_; rintro e w6 ⟨rfl, hx6⟩)
            obtain ⟨sx, hsx⟩ : ∃ sx, sx = stepX (d : Int) := ⟨_, rfl⟩
            obtain ⟨sy, hsy⟩ : ∃ sy, sy = stepY (d : Int) := ⟨_, rfl⟩
            have hsb := step_bd (d : Int)
            rw [← hsx, ← hsy] at hsb ⊢
            have Hsb := hidA hsb
            have Hsx := hidA hsx
            have Hsy := hidA hsy
            have hO7 := hO5.ext hx6
            have hx7 := hx5.trans hx6
            clear hsx hsy hsb hO5 hx5 hx6 HSq hHeld
            go_wp2
            go_loopw [6, 17] (fun s6 s17 wz => ∃ k : Nat, 1 ≤ k ∧ k ≤ m + 1 ∧ s17 = .int .i64 k ∧ OwnP wz wB.heap.size s6 (outL l i ++ segL (px, py) d (k - 1)) ∧ Ext wB wz) (fun _ s17 _ => m + 1 - (intOf s17).toNat)
            case atStart => exact ⟨1, Nat.le_refl _, Nat.le_add_left 1 m, rfl, by rw [show segL (px, py) d (1 - 1) = [] from rfl, List.append_nil]; exact hO7, hx7⟩
            case round =>
              clear hO7 hx7
              obtain ⟨k, hk1, hkm, rfl, hO, hx⟩ := hrel
              by_cases hkle : k ≤ m
              · have hkl : (k : Int) ≤ m := Int.ofNat_le.2 hkle
                have hkb : decide ((k : Int) ≤ (m : Int)) = true := decide_eq_true hkl
                have Hk := hidA (show k ≤ m ∧ k ≤ 65536 ∧ 1 ≤ k ∧ (outL l i).length + (k - 1) + 1 ≤ 65536 from hk_all hk1 hkle (Nat.not_lt.2 Hlm.out))
                obtain ⟨s1, s2, s3, s4⟩ := Hsb.out
                obtain ⟨p1, p2, p3, p4⟩ := Hfp.out
                have m1 := mul_sgn3 (k := k) (s := sx) Hk.out.2.1 s1 s2
                have m2 := mul_sgn3 (k := k) (s := sy) Hk.out.2.1 s3 s4
                obtain ⟨mx, hmx⟩ : ∃ mx, mx = (k : Int) * sx := ⟨_, rfl⟩
                obtain ⟨my, hmy⟩ : ∃ my, my = (k : Int) * sy := ⟨_, rfl⟩
                rw [← hmx] at m1
                rw [← hmy] at m2
                obtain ⟨ux, hux⟩ : ∃ ux, ux = px + mx := ⟨_, rfl⟩
                obtain ⟨uy, huy⟩ : ∃ uy, uy = py + my := ⟨_, rfl⟩
                have v1 := hidA (show IntKind.i64.wrap ((k : Int) * sx) = mx from by rw [← hmx]; exact IntWalk.i64_in _ (wr_bd m1))
                have v2 := hidA (show IntKind.i64.wrap ((k : Int) * sy) = my from by rw [← hmy]; exact IntWalk.i64_in _ (wr_bd m2))
                have v3 := hidA (show IntKind.i64.wrap (px + mx) = ux from by rw [← hux]; exact IntWalk.i64_in _ (by rw [hux]; exact wr_bd2 p1 p2 m1))
                have v4 := hidA (show IntKind.i64.wrap (py + my) = uy from by rw [← huy]; exact IntWalk.i64_in _ (by rw [huy]; exact wr_bd2 p3 p4 m2))
                have Hnx := hidA (show segL (px, py) d k = segL (px, py) d (k - 1) ++ [(ux, uy)] from by rw [segL_next Hk.out.2.2.1, hux, huy, hmx, hmy, Hsx.out, Hsy.out])
                have Hxl := hidA (show (outL l i ++ segL (px, py) d (k - 1)).length = (outL l i).length + (k - 1) from by rw [List.length_append, segL_length])
                have hxe : Ext wr (wr.drew.alloc (.cells #[.int .i64 ux, .int .i64 uy] 32)) := ((Ext.refl wr).drew).alloc _
                have hxa := hidA (hx.trans hxe)
                have hown2 := hidA (hO.ext hxe)
                have hnews : Hid (∀ j u, ([.int .i64 ux, .int .i64 uy] : List Value)[j]? = some u → (wr.drew.alloc (.cells #[.int .i64 ux, .int .i64 uy] 32)).cell? ((⟨wr.heap.size, 0, none⟩ : Addr).add j) = some u) := World.news_of_block (cs := #[.int .i64 ux, .int .i64 uy]) (t := 32) (fr := (0, 0)) (heap_alloc_new wr.drew _)
                have hone : Hid (∀ u ∈ ([.int .i64 ux, .int .i64 uy] : List Value), u.oneCell' = true) := by intro u hu; simp at hu; rcases hu with rfl | rfl <;> rfl
                have hs9 := hidA (show wB.heap.size ≤ (wr.drew.alloc (.cells #[.int .i64 ux, .int .i64 uy] 32)).heap.size from hxa.out.size)
                have hsz1 := hidA (show (wr.drew.alloc (.cells #[.int .i64 ux, .int .i64 uy] 32)).heap.size = wr.heap.size + 1 from by rw [World.size_alloc]; rfl)
                have hmx2 := hidA (show (outL l i ++ segL (px, py) d (k - 1)).length + 1 ≤ maxLen from by rw [Hxl.out]; have := Hk.out; unfold maxLen; omega)
                have hmb := hidA (show ((outL l i ++ segL (px, py) d (k - 1)).length + 1) * 16 ≤ 140737488355328 from by rw [Hxl.out]; have := Hk.out; omega)
                have KS : ∀ w', Ext wr w' → (fun w' => w'.cell? (adP.add (i * 2)) = some (.int .i64 px) ∧ w'.cell? ⟨(adP.add (i * 2)).block, (adP.add (i * 2)).off + 1, none⟩ = some (.int .i64 py)) w' := fun w' h => by
                  obtain ⟨ad', e, _, d0, d1⟩ := pt_at (hV.ext (hxwB.trans (hx.trans h))) (k := i) (by have := Hn.out; have := Hin.out; omega)
                  injection e with e
                  subst e
                  rw [Hpp.out] at d0 d1
                  exact ⟨d0, d1⟩
                clear hmx hmy hux huy s1 s2 s3 s4 p1 p2 p3 p4 m1 m2 hkle hO hk1 hkm
                go_upto_region 27 with fail
                clear hkb hkl
                refine wp_region_noPanic ?_
                refine wp_region_held_drew (S := fun w' => w'.cell? (adP.add (i * 2)) = some (.int .i64 px) ∧ w'.cell? ⟨(adP.add (i * 2)).block, (adP.add (i * 2)).off + 1, none⟩ = some (.int .i64 py)) (by kernel_rfl) ?_ (fun hHeld => ?_)
                · (first | exact hS9 | exact KS _ (by repeat (first | exact Ext.refl _ | assumption | refine Ext.setCell ?_ (by first | (simp; done) | (simp; omega)) _ | refine Ext.drewN ?_ _ | refine Ext.alloc ?_ _ | refine Ext.drew ?_ | refine Ext.trans ?_ (by assumption))))
                refine wpAnyH_take (i := 0) (oi := ?o3x0) (v := ?v3x0) ?hi3x0 (by kernel_rfl) ?hf3x0 ?hr3x0 (fun _ _ _ h => h) ?hy3x0 (by assumption) ?rest3x0
                case hi3x0 => (simp only [List.getElem?_toArray, List.getElem?_cons_zero]; exact rfl)
                case hf3x0 => kernel_rfl
                case hr3x0 => kernel_rfl
                case hy3x0 => (refine Or.inl ⟨by rfl, ?_⟩; intro w hSw; (try dsimp only at hSw); go_simp; try with_reducible rfl)
                simp only [put_mk, List.set_cons_succ, List.set_cons_zero]
                refine wpAnyH_take (i := 1) (oi := ?o3x1) (v := ?v3x1) ?hi3x1 (by kernel_rfl) ?hf3x1 ?hr3x1 (fun _ _ _ h => h) ?hy3x1 (by assumption) ?rest3x1
                case hi3x1 => (simp only [List.getElem?_toArray, List.getElem?_cons_succ, List.getElem?_cons_zero]; exact rfl)
                case hf3x1 => kernel_rfl
                case hr3x1 => kernel_rfl
                case hy3x1 => (refine Or.inl ⟨by rfl, ?_⟩; intro w hSw; (try dsimp only at hSw); go_simp; try with_reducible rfl)
                simp only [put_mk, List.set_cons_succ, List.set_cons_zero]
                refine wpAnyH_take (i := 2) (oi := ?o3x2) (v := ?v3x2) ?hi3x2 (by kernel_rfl) ?hf3x2 ?hr3x2 (fun _ _ _ h => h) ?hy3x2 (by assumption) ?rest3x2
                case hi3x2 => (simp only [List.getElem?_toArray, List.getElem?_cons_succ, List.getElem?_cons_zero]; exact rfl)
                case hf3x2 => kernel_rfl
                case hr3x2 => kernel_rfl
                case hy3x2 => (refine Or.inl ⟨by rfl, ?_⟩; intro w hSw; (try dsimp only at hSw); go_simp; try with_reducible rfl)
                simp only [put_mk, List.set_cons_succ, List.set_cons_zero]
                refine wpAnyH_take (i := 3) (oi := ?o3x3) (v := ?v3x3) ?hi3x3 (by kernel_rfl) ?hf3x3 ?hr3x3 (fun _ _ _ h => h) ?hy3x3 (by assumption) ?rest3x3
                case hi3x3 => (simp only [List.getElem?_toArray, List.getElem?_cons_succ, List.getElem?_cons_zero]; exact rfl)
                case hf3x3 => kernel_rfl
                case hr3x3 => kernel_rfl
                case hy3x3 => (refine Or.inl ⟨by rfl, ?_⟩; intro w hSw; (try dsimp only at hSw); go_simp; try with_reducible rfl)
                simp only [put_mk, List.set_cons_succ, List.set_cons_zero]
                refine wpAnyH_take (i := 4) (oi := ?o3x4) (v := ?v3x4) ?hi3x4 (by kernel_rfl) ?hf3x4 ?hr3x4 (fun _ _ _ h => h) ?hy3x4 (by assumption) ?rest3x4
                case hi3x4 => (simp only [List.getElem?_toArray, List.getElem?_cons_succ, List.getElem?_cons_zero]; exact rfl)
                case hf3x4 => kernel_rfl
                case hr3x4 => kernel_rfl
                case hy3x4 => (refine Or.inl ⟨by rfl, ?_⟩; intro w hSw; (try dsimp only at hSw); go_simp; try with_reducible rfl)
                simp only [put_mk, List.set_cons_succ, List.set_cons_zero]
                refine wpAnyH_take (i := 5) (oi := ?o3x5) (v := ?v3x5) ?hi3x5 (by kernel_rfl) ?hf3x5 ?hr3x5 (fun _ _ _ h => h) ?hy3x5 (by assumption) ?rest3x5
                case hi3x5 => (simp only [List.getElem?_toArray, List.getElem?_cons_succ, List.getElem?_cons_zero]; exact rfl)
                case hf3x5 => kernel_rfl
                case hr3x5 => kernel_rfl
                case hy3x5 => (refine Or.inl ⟨by rfl, ?_⟩; intro w hSw; (try dsimp only at hSw); go_simp; try with_reducible rfl)
                simp only [put_mk, List.set_cons_succ, List.set_cons_zero]
                refine wpAnyH_take (i := 6) (oi := ?o3x6) (v := ?v3x6) ?hi3x6 (by kernel_rfl) ?hf3x6 ?hr3x6 (fun _ _ _ h => h) ?hy3x6 (by assumption) ?rest3x6
                case hi3x6 => (simp only [List.getElem?_toArray, List.getElem?_cons_succ, List.getElem?_cons_zero]; exact rfl)
                case hf3x6 => kernel_rfl
                case hr3x6 => kernel_rfl
                case hy3x6 => (refine Or.inl ⟨by rfl, ?_⟩; intro w hSw; (try dsimp only at hSw); go_simp; try with_reducible rfl)
                simp only [put_mk, List.set_cons_succ, List.set_cons_zero]
                refine wpAnyH_take (i := 7) (oi := ?o3x7) (v := ?v3x7) ?hi3x7 (by kernel_rfl) ?hf3x7 ?hr3x7 (fun _ _ _ h => h) ?hy3x7 (by assumption) ?rest3x7
                case hi3x7 => (simp only [List.getElem?_toArray, List.getElem?_cons_succ, List.getElem?_cons_zero]; exact rfl)
                case hf3x7 => kernel_rfl
                case hr3x7 => kernel_rfl
                case hy3x7 => (refine Or.inl ⟨by rfl, ?_⟩; intro w hSw; (try dsimp only at hSw); go_simp; try with_reducible rfl)
                simp only [put_mk, List.set_cons_succ, List.set_cons_zero]
                refine wpAnyH_take (i := 8) (oi := ?o3x8) (v := ?v3x8) ?hi3x8 (by kernel_rfl) ?hf3x8 ?hr3x8 (fun _ _ _ h => h) ?hy3x8 (by assumption) ?rest3x8
                case hi3x8 => (simp only [List.getElem?_toArray, List.getElem?_cons_succ, List.getElem?_cons_zero]; exact rfl)
                case hf3x8 => kernel_rfl
                case hr3x8 => kernel_rfl
                case hy3x8 => (refine Or.inl ⟨by rfl, ?_⟩; intro w hSw; (try dsimp only at hSw); go_simp; try with_reducible rfl)
                simp only [put_mk, List.set_cons_succ, List.set_cons_zero]
                refine wpAnyH_take (i := 9) (oi := ?o3x9) (v := ?v3x9) ?hi3x9 (by kernel_rfl) ?hf3x9 ?hr3x9 (fun _ _ _ h => h) ?hy3x9 (by assumption) ?rest3x9
                case hi3x9 => (simp only [List.getElem?_toArray, List.getElem?_cons_succ, List.getElem?_cons_zero]; exact rfl)
                case hf3x9 => kernel_rfl
                case hr3x9 => kernel_rfl
                case hy3x9 => (refine Or.inl ⟨by rfl, ?_⟩; intro w hSw; (try dsimp only at hSw); go_simp; try with_reducible rfl)
                simp only [put_mk, List.set_cons_succ, List.set_cons_zero]
                refine wpAnyH_take (i := 10) (oi := ?o3x10) (v := ?v3x10) ?hi3x10 (by kernel_rfl) ?hf3x10 ?hr3x10 (fun _ _ _ h => h) ?hy3x10 (by assumption) ?rest3x10
                case hi3x10 => (simp only [List.getElem?_toArray, List.getElem?_cons_succ, List.getElem?_cons_zero]; exact rfl)
                case hf3x10 => kernel_rfl
                case hr3x10 => kernel_rfl
                case hy3x10 => (refine Or.inl ⟨by rfl, ?_⟩; intro w hSw; (try dsimp only at hSw); go_simp; try with_reducible rfl)
                simp only [put_mk, List.set_cons_succ, List.set_cons_zero]
                refine wpAnyH_take (i := 11) (oi := ?o3x11) (v := ?v3x11) ?hi3x11 (by kernel_rfl) ?hf3x11 ?hr3x11 (fun _ _ _ h => h) ?hy3x11 (by assumption) ?rest3x11
                case hi3x11 => (simp only [List.getElem?_toArray, List.getElem?_cons_succ, List.getElem?_cons_zero]; exact rfl)
                case hf3x11 => kernel_rfl
                case hr3x11 => kernel_rfl
                case hy3x11 => (refine Or.inl ⟨by rfl, ?_⟩; intro w hSw; (try dsimp only at hSw); go_simp; try with_reducible rfl)
                simp only [put_mk, List.set_cons_succ, List.set_cons_zero]
                refine wpAnyH_take (i := 12) (oi := ?o3x12) (v := ?v3x12) ?hi3x12 (by kernel_rfl) ?hf3x12 ?hr3x12 (fun _ _ _ h => h) ?hy3x12 (by assumption) ?rest3x12
                case hi3x12 => (simp only [List.getElem?_toArray, List.getElem?_cons_succ, List.getElem?_cons_zero]; exact rfl)
                case hf3x12 => kernel_rfl
                case hr3x12 => kernel_rfl
                case hy3x12 => (refine Or.inl ⟨by rfl, ?_⟩; intro w hSw; (try dsimp only at hSw); go_simp; try with_reducible rfl)
                simp only [put_mk, List.set_cons_succ, List.set_cons_zero]
                refine wpAnyH_take (i := 13) (oi := ?o3x13) (v := ?v3x13) ?hi3x13 (by kernel_rfl) ?hf3x13 ?hr3x13 (fun _ _ _ h => h) ?hy3x13 (by assumption) ?rest3x13
                case hi3x13 => (simp only [List.getElem?_toArray, List.getElem?_cons_succ, List.getElem?_cons_zero]; exact rfl)
                case hf3x13 => kernel_rfl
                case hr3x13 => kernel_rfl
                case hy3x13 => (refine Or.inl ⟨by rfl, ?_⟩; intro w hSw; (try dsimp only at hSw); go_simp; try with_reducible rfl)
                simp only [put_mk, List.set_cons_succ, List.set_cons_zero]
                refine wpAnyH_take (i := 14) (oi := ?o3x14) (v := ?v3x14) ?hi3x14 (by kernel_rfl) ?hf3x14 ?hr3x14 (fun _ _ _ h => h) ?hy3x14 (by assumption) ?rest3x14
                case hi3x14 => (simp only [List.getElem?_toArray, List.getElem?_cons_succ, List.getElem?_cons_zero]; exact rfl)
                case hf3x14 => kernel_rfl
                case hr3x14 => kernel_rfl
                case hy3x14 => (refine Or.inl ⟨by rfl, ?_⟩; intro w hSw; (try dsimp only at hSw); go_simp; try with_reducible rfl)
                simp only [put_mk, List.set_cons_succ, List.set_cons_zero]
                refine wpAnyH_take (i := 15) (oi := ?o3x15) (v := ?v3x15) ?hi3x15 (by kernel_rfl) ?hf3x15 ?hr3x15 (fun _ _ _ h => h) ?hy3x15 (by assumption) ?rest3x15
                case hi3x15 => (simp only [List.getElem?_toArray, List.getElem?_cons_succ, List.getElem?_cons_zero]; exact rfl)
                case hf3x15 => kernel_rfl
                case hr3x15 => kernel_rfl
                case hy3x15 => (refine Or.inl ⟨by rfl, ?_⟩; intro w hSw; (try dsimp only at hSw); go_simp; try with_reducible rfl)
                simp only [put_mk, List.set_cons_succ, List.set_cons_zero]
                refine wpAnyH_take (i := 16) (oi := ?o3x16) (v := ?v3x16) ?hi3x16 (by kernel_rfl) ?hf3x16 ?hr3x16 (fun _ _ _ h => h) ?hy3x16 (by assumption) ?rest3x16
                case hi3x16 => (simp only [List.getElem?_toArray, List.getElem?_cons_succ, List.getElem?_cons_zero]; exact rfl)
                case hf3x16 => kernel_rfl
                case hr3x16 => kernel_rfl
                case hy3x16 => (refine Or.inl ⟨by rfl, ?_⟩; intro w hSw; (try dsimp only at hSw); go_simp; try with_reducible rfl)
                simp only [put_mk, List.set_cons_succ, List.set_cons_zero]
                refine wpAnyH_take (i := 17) (oi := ?o3x17) (v := ?v3x17) ?hi3x17 (by kernel_rfl) ?hf3x17 ?hr3x17 (fun _ _ _ h => h) ?hy3x17 (by assumption) ?rest3x17
                case hi3x17 => (simp only [List.getElem?_toArray, List.getElem?_cons_succ, List.getElem?_cons_zero]; exact rfl)
                case hf3x17 => kernel_rfl
                case hr3x17 => kernel_rfl
                case hy3x17 => (refine Or.inl ⟨by rfl, ?_⟩; intro w hSw; (try dsimp only at hSw); go_simp; try with_reducible rfl)
                simp only [put_mk, List.set_cons_succ, List.set_cons_zero]
                refine wpAnyH_take (i := 18) (oi := ?o3x18) (v := ?v3x18) ?hi3x18 (by kernel_rfl) ?hf3x18 ?hr3x18 (fun _ _ _ h => h) ?hy3x18 (by assumption) ?rest3x18
                case hi3x18 => (simp only [List.getElem?_toArray, List.getElem?_cons_succ, List.getElem?_cons_zero]; exact rfl)
                case hf3x18 => kernel_rfl
                case hr3x18 => kernel_rfl
                case hy3x18 => (refine Or.inl ⟨by rfl, ?_⟩; intro w hSw; (try dsimp only at hSw); go_simp; try with_reducible rfl)
                simp only [put_mk, List.set_cons_succ, List.set_cons_zero]
                refine wpAnyH_take (i := 19) (oi := ?o3x19) (v := ?v3x19) ?hi3x19 (by kernel_rfl) ?hf3x19 ?hr3x19 (fun _ _ _ h => h) ?hy3x19 (by assumption) ?rest3x19
                case hi3x19 => (simp only [List.getElem?_toArray, List.getElem?_cons_succ, List.getElem?_cons_zero]; exact rfl)
                case hf3x19 => kernel_rfl
                case hr3x19 => kernel_rfl
                case hy3x19 => (refine Or.inl ⟨by rfl, ?_⟩; intro w hSw; (try dsimp only at hSw); go_simp; try with_reducible rfl)
                simp only [put_mk, List.set_cons_succ, List.set_cons_zero]
                refine wpAnyH_take (i := 20) (oi := ?o3x20) (v := ?v3x20) ?hi3x20 (by kernel_rfl) ?hf3x20 ?hr3x20 (fun _ _ _ h => h) ?hy3x20 (by assumption) ?rest3x20
                case hi3x20 => (simp only [List.getElem?_toArray, List.getElem?_cons_succ, List.getElem?_cons_zero]; exact rfl)
                case hf3x20 => kernel_rfl
                case hr3x20 => kernel_rfl
                case hy3x20 => (refine Or.inl ⟨by rfl, ?_⟩; intro w hSw; (try dsimp only at hSw); go_simp; try with_reducible rfl)
                simp only [put_mk, List.set_cons_succ, List.set_cons_zero]
                refine wpAnyH_take (i := 21) (oi := ?o3x21) (v := ?v3x21) ?hi3x21 (by kernel_rfl) ?hf3x21 ?hr3x21 (fun _ _ _ h => h) ?hy3x21 (by assumption) ?rest3x21
                case hi3x21 => (simp only [List.getElem?_toArray, List.getElem?_cons_succ, List.getElem?_cons_zero]; exact rfl)
                case hf3x21 => kernel_rfl
                case hr3x21 => kernel_rfl
                case hy3x21 => (refine Or.inl ⟨by rfl, ?_⟩; intro w hSw; (try dsimp only at hSw); go_simp; try with_reducible rfl)
                simp only [put_mk, List.set_cons_succ, List.set_cons_zero]
                refine wpAnyH_ready (rs := [22]) (by kernel_rfl) (by simp) ?_
                refine AllReadyH.cons (o := ?o3x22) ?hi3x22 (fun K hK => ?_) AllReadyH.nil
                case hi3x22 => (simp only [List.getElem?_toArray, List.getElem?_cons_succ, List.getElem?_cons_zero]; exact rfl)
                go_simp
                rw [v1.out, v2.out, v3.out, v4.out]
                refine hK.out _ _ ?_ (fun hHeld => ?_)
                · (first | exact hS9 | exact KS _ (by repeat (first | exact Ext.refl _ | assumption | refine Ext.setCell ?_ (by first | (simp; done) | (simp; omega)) _ | refine Ext.drewN ?_ _ | refine Ext.alloc ?_ _ | refine Ext.drew ?_ | refine Ext.trans ?_ (by assumption))))
                clear hK K
                refine wpAnyH_ready (rs := [23]) (by kernel_rfl) (by simp) ?_
                refine AllReadyH.cons (o := ?o3x23) ?hi3x23 (fun K hK => ?_) AllReadyH.nil
                case hi3x23 => (simp only [List.getElem?_toArray, List.getElem?_cons_succ, List.getElem?_cons_zero]; exact rfl)
                refine step_append_lies _ (by rfl) (.tmp 136) (.tmp 158) 46 (by rfl) wB.heap.size 32 ti (.agg #[.int .i64 0, .int .i64 0]) 2 16 Try.underlying46 hi0 hz0 hz1 hz2 (by rfl) (by decide) _ _ _ (by rfl) hown2.out ⟨wr.heap.size, 0, none⟩ 1 1 [.int .i64 ux, .int .i64 uy] (by rfl) (by rfl) hnews.out hone.out (by omega) hmx2.out hmb.out hs9.out (wr.heap.size + 1) hsz1.out ?_
                intro gg cap9 w9 hown9 hgrow9 hat hlt
                have hx9 : Ext wB w9 := hxa.out.grown hgrow9 (fun b hb => (World.ownsRow.lt hown2.out b hb).1)
                have hS9 : (fun w' => w'.cell? (adP.add (i * 2)) = some (.int .i64 px) ∧ w'.cell? ⟨(adP.add (i * 2)).block, (adP.add (i * 2)).off + 1, none⟩ = some (.int .i64 py)) w9 := by
                  obtain ⟨ad', e, _, d0, d1⟩ := pt_at (hV.ext (hxwB.trans hx9)) (k := i) (by have := Hn.out; have := Hin.out; omega)
                  injection e with e
                  subst e
                  rw [Hpp.out] at d0 d1
                  exact ⟨d0, d1⟩
                refine hK.out _ _ ?_ (fun hHeld => ?_)
                · (first | exact hS9 | exact KS _ (by repeat (first | exact Ext.refl _ | assumption | refine Ext.setCell ?_ (by first | (simp; done) | (simp; omega)) _ | refine Ext.drewN ?_ _ | refine Ext.alloc ?_ _ | refine Ext.drew ?_ | refine Ext.trans ?_ (by assumption))))
                clear hK K
                simp only [put_mk, List.set_cons_succ, List.set_cons_zero]
                refine wpAnyH_take (i := 24) (oi := ?o3x24) (v := ?v3x24) ?hi3x24 (by kernel_rfl) ?hf3x24 ?hr3x24 (fun _ _ _ h => h) ?hy3x24 (by assumption) ?rest3x24
                case hi3x24 => (simp only [List.getElem?_toArray, List.getElem?_cons_succ, List.getElem?_cons_zero]; exact rfl)
                case hf3x24 => kernel_rfl
                case hr3x24 => kernel_rfl
                case hy3x24 => (refine Or.inl ⟨by rfl, ?_⟩; intro w hSw; (try dsimp only at hSw); go_simp; try with_reducible rfl)
                simp only [put_mk, List.set_cons_succ, List.set_cons_zero]
                refine wpAnyH_done (by kernel_rfl) ?_ _
                refine NoPanic.normal ?_
                have HO9 := hidA (show OwnP w9 wB.heap.size (.slice (some ⟨gg, 0, none⟩) ((outL l i ++ segL (px, py) d (k - 1)).length + 1) cap9) (outL l i ++ segL (px, py) d (k + 1 - 1)) from by
                  rw [Nat.add_sub_cancel, Hnx.out, ← List.append_assoc]
                  exact OwnP.push hown9)
                have Hx9 := hidA hx9
                clear v1 v2 v3 v4 Hnx Hxl hxe hxa hown2 hnews hone hs9 hsz1 hmx2 hmb KS hown9 hgrow9 hat hlt hx9 hS9 hHeld hx
                go_wp2
                go_roundw
                case rel => exact ⟨k + 1, Nat.le_add_left 1 k, Nat.succ_le_succ Hk.out.1, congrArg (Value.int IntKind.i64) (nxt_i2 Hk.out.2.1), (by have h8 := HO9.out; rw [List.length_append] at h8; exact h8), Hx9.out⟩
                case measure => exact nxt_kk Hk.out.2.1 Hk.out.1
              · obtain rfl : k = m + 1 := Nat.le_antisymm hkm (Nat.not_le.1 hkle)
                have hkn : ¬ ((m + 1 : Nat) : Int) ≤ m := fun h => absurd (Int.ofNat_le.1 h) (Nat.not_succ_le_self m)
                have hkb : decide (((m + 1 : Nat) : Int) ≤ (m : Int)) = false := decide_eq_false hkn
                rw [Nat.add_sub_cancel, ← Hseg.out] at hO
                have HO := hidA hO
                have Hn6 := hidA hn6
                clear hO hk1 hkm hkle
                go_wp2
                go_roundw
                case rel => exact ⟨i + 1, Hin.out, (by first | rfl | go_num), HO.out, hx⟩
                case measure => exact nx_s Hin.out
          · obtain rfl : n = i + 1 := by omega
            rw [Nat.add_sub_cancel] at HOv
            obtain ⟨B1, c1, rfl, hr1⟩ := (HOv.out.ext hx).any
            obtain ⟨B2, c2, rfl, hr2⟩ := hO.any
            have hcl := Hmono.out i (by omega)
            have HEq := hidA (eqPts_same B1 B2 _ c1 c2 (outL l i) wr rfl hr1 hr2 (by omega))
            have Hend := hidA hxw
            clear hO hr1 hr2 hx hxw hcl
            go_wp2_with (go_at_call 26; refine HEq.out.mono ?_; rintro e w9 ⟨rfl, hx9⟩)
            go_ret
            exact ⟨rfl, Hend.out.trans hx9⟩
end Go.Proofs.Ytpgdinpckolfpaa
