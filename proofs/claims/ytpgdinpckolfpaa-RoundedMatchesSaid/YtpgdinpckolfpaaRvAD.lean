/- The law CornersMatch: it returns true for every way. -/
import Derived.Test.YtpgdinpckolfpaaRvAC
import Derived.Test.YtpgdinpckolfpaaRvAA
namespace Go.Proofs.Ytpgdinpckolfpaa
open Go.RowKit
attribute [local go_sem ↓] Go.wp_at_zero Go.wp_at_succ
attribute [local go_sem] run_store_float

/-- what Rounded answers, whatever its arguments -/
def RndAny (l : List (Int × Int)) (t : Int) (w : World) (v : Value) (ev : Int) (w' : World) : Prop := Ext w w' ∧ (rndE l t ≠ 0 ∧ v = .slice none 0 0 ∧ ev = rndE l t ∨ rndE l t = 0 ∧ ev = 0 ∧ OwnSp w' w.heap.size v (cutN (spP l) t.toNat))
theorem Rounded_any (A : Option Addr) (n c : Nat) (l : List (Int × Int)) (t : Int) (w : World) (hn : l.length = n) (hV : Rd w A (ptv l)) :
    Calls Try.prog 40 #[.slice A n c, .int .i64 t] w fun e w' => ∃ (v : Value) (ev : Int), e = .returned (.tuple #[v, .int .i64 ev]) ∧ RndAny l t w v ev w' := by
  by_cases h0 : rnA n = 0
  · by_cases h1 : plI l 0 n = 0
    · have hok : ∀ i, i < l.length → farP (l.getD i (0, 0)) = false := fun i hi => plI_ok n 0 h1 i (Nat.zero_le _) (by omega)
      have hE : rndE l t = rnB t := by unfold rndE; rw [hn, if_neg (by simpa using h0), if_neg (by simpa using h1)]
      by_cases h2 : rnB t = 0
      · have ht : 0 ≤ t ∧ t ≤ 6 := by
          unfold rnB at h2
          split at h2
          · assumption
          · cases h2
        obtain ⟨m, rfl⟩ : ∃ m : Nat, t = m := ⟨t.toNat, by omega⟩
        refine (Rounded_ok A n c l m w hn hV h0 hok (by omega)).mono ?_
        rintro e w' ⟨v, rfl, h3, h4⟩
        exact ⟨v, 0, rfl, h4, .inr ⟨by rw [hE]; exact h2, rfl, by rw [Int.toNat_natCast]; exact h3⟩⟩
      · refine (Rounded_bad3 A n c l t w hn hV h0 hok h2).mono ?_
        rintro e w' ⟨rfl, h4⟩
        have e3 : rnB t = 3 := by
          unfold rnB at h2 ⊢
          split
          · rename_i h; rw [if_pos h] at h2; exact absurd rfl h2
          · rfl
        exact ⟨_, _, rfl, h4, .inl ⟨by rw [hE]; exact h2, rfl, by rw [hE, e3]⟩⟩
    · have hE : rndE l t = plI l 0 n := by unfold rndE; rw [hn, if_neg (by simpa using h0), if_pos h1]
      refine (Rounded_bad2 A n c l t w hn hV h0 h1).mono ?_
      rintro e w' ⟨rfl, h4⟩
      exact ⟨_, _, rfl, h4, .inl ⟨by rw [hE]; exact h1, rfl, by rw [hE]⟩⟩
  · have hE : rndE l t = rnA n := by unfold rndE; rw [hn, if_pos h0]
    refine (Rounded_bad1 A n c t w h0).mono ?_
    rintro e w' ⟨rfl, h4⟩
    exact ⟨_, _, rfl, h4, .inl ⟨by rw [hE]; exact h0, rfl, by rw [hE]⟩⟩
theorem bitS_same (a : Nat) (w : World) : Calls Try.prog 22 #[.float .f32 a, .float .f32 a] w fun e w' => e = .returned (.bool true) ∧ w = w' := by
  have hf : ∀ (a : Nat) (w : World), (callFunc 68 #[.float .f32 a]).run Try.prog w = .ok (.value (.int .u32 a)) w := fun a w => by kernel_rfl
  have hf := hf a
  go_enter Try.func22, Try.ntmps22
  go_wp2
  go_ret
  exact ⟨ret_b (by simp), rfl⟩
set_option maxHeartbeats 1600000 in
theorem bits2_same (a b : Nat) (w : World) : Calls Try.prog 43 #[.agg #[.float .f32 a, .float .f32 b], .agg #[.float .f32 a, .float .f32 b]] w fun e w' => e = .returned (.bool true) ∧ Ext w w' := by
  have HB := fun (a : Nat) (w : World) => hidA (bitS_same a w)
  go_enter Try.func43, Try.ntmps43
  go_wp2_with (go_at_call 22; refine ((HB _ _).out).mono ?_; rintro e w9 ⟨rfl, hw9⟩; subst hw9)
  go_ret
  exact ⟨rfl, (by repeat (first | exact Ext.refl _ | assumption | refine Ext.setCell ?_ (by first | (simp; done) | (simp; omega)) _ | refine Ext.drewN ?_ _ | refine Ext.alloc ?_ _ | refine Ext.drew ?_ | refine Ext.trans ?_ (by assumption)))⟩
set_option maxRecDepth 100000 in
set_option maxHeartbeats 1600000 in
theorem eqSp_same (A B : Option Addr) (n c d : Nat) (l : List (Nat × Nat)) (w : World) (hn : l.length = n) (ha : Rd w A (spv l)) (hb : Rd w B (spv l)) (hnb : n ≤ 4000000000) :
    Calls Try.prog 42 #[.slice A n c, .slice B n d, .func (.func 43) #[] #[]] w fun e w' => e = .returned (.bool true) ∧ Ext w w' := by
  have HB := fun (a b : Nat) (w : World) => hidA (bits2_same a b w)
  have Hn := hidA hn
  clear hn
  go_enter Try.func42, Try.ntmps42
  go_wp2
  go_loopw [17] (fun i wr => ∃ k : Nat, k ≤ n ∧ i = .int .i64 k ∧ Ext w wr) (fun i _ => n - (intOf i).toNat)
  case atStart => exact ⟨0, Nat.zero_le _, rfl, Ext.refl _⟩
  case round =>
    obtain ⟨k, hk, rfl, hx⟩ := hrel
    by_cases hlt : k < n
    · have Hlt := hidA hlt
      obtain ⟨ad, rfl, hbk, c0, c1⟩ := sp_at (ha.ext hx) (k := k) (by have := Hn.out; omega)
      obtain ⟨ad2, rfl, hbk2, d0, d1⟩ := sp_at (hb.ext hx) (k := k) (by have := Hn.out; omega)
      generalize (l.getD k (0, 0)).1 = a at *
      generalize (l.getD k (0, 0)).2 = b at *
      have k0 : (0 : Int) ≤ k := by omega
      have k1 : (k : Int) < n := by omega
      have d0' : (wr.alloc (.cells #[.float .f32 a, .float .f32 b] 79)).cell? (ad2.add (k * 2)) = some (.float .f32 a) := (((Ext.refl wr).alloc _).cell _ (by rw [add_block]; exact hbk2)).trans d0
      have d1' : (wr.alloc (.cells #[.float .f32 a, .float .f32 b] 79)).cell? ⟨(ad2.add (k * 2)).block, (ad2.add (k * 2)).off + 1, none⟩ = some (.float .f32 b) := (((Ext.refl wr).alloc _).cell ⟨(ad2.add (k * 2)).block, (ad2.add (k * 2)).off + 1, none⟩ (by show (ad2.add (k * 2)).block < _; rw [add_block]; exact hbk2)).trans d1
      clear d0 d1
      go_wp2_with (go_at_call 43; refine ((HB _ _ _).out).mono ?_; rintro e w9 ⟨rfl, hx9⟩)
      go_roundw
      case rel => exact ⟨k + 1, Hlt.out, (by first | rfl | go_num), hx.trans (by repeat (first | exact Ext.refl _ | assumption | refine Ext.setCell ?_ (by first | (simp; done) | (simp; omega)) _ | refine Ext.drewN ?_ _ | refine Ext.alloc ?_ _ | refine Ext.drew ?_ | refine Ext.trans ?_ (by assumption)))⟩
      case measure => exact nxt_k Hlt.out
    · obtain rfl : k = n := by omega
      go_wp2
      go_ret
      exact ⟨rfl, hx⟩
end Go.Proofs.Ytpgdinpckolfpaa

namespace Go.Proofs.Ytpgdinpckolfpaa
open Go.RowKit
attribute [local go_sem ↓] Go.wp_at_zero Go.wp_at_succ
attribute [local go_sem] run_store_float

theorem OwnP.any {w : World} {base : Nat} {v : Value} {xs : List (Int × Int)} (h : OwnP w base v xs) : ∃ A cap, v = .slice A xs.length cap ∧ Rd w A (ptv xs) := by
  rcases h.2 with ⟨h1, h2⟩ | ⟨g, cap, cur, hv, _⟩
  · have hx : xs = [] := List.eq_nil_of_length_eq_zero h2
    subst hx
    exact ⟨none, 0, h1, Rd.nil _ _⟩
  · subst hv
    exact ⟨_, cap, rfl, Rd.of_own h⟩
set_option maxRecDepth 100000 in
set_option maxHeartbeats 3200000 in
theorem Corners_bad (A : Option Addr) (n c : Nat) (l : List (Int × Int)) (w : World) (hn : l.length = n) (hV : Rd w A (ptv l)) (hE : wayE farP l ≠ 0) :
    Calls Try.prog 38 #[.slice A n c] w fun e w' => e = .returned (.tuple #[.slice none 0 0, .int .i64 (wayE farP l)]) ∧ Ext w w' := by
  have HCk := fun (w' : World) (h : Ext w w') => hidA (checkWay_any 77 #[] enters_place farP A n c l w' (fun p hp => farP_false hp) (fun x y w2 _ => place_any x y w2) hn (hV.ext h))
  have hne : (wayE farP l != 0) = true := by simpa using hE
  clear hE hn
  generalize wayE farP l = E at *
  go_enter Try.func38, Try.ntmps38
  go_wp2_with (go_at_call 80; refine ((HCk _ (Ext.refl _)).out).mono ?_; rintro e w1 ⟨rfl, hx1⟩)
  go_ret2
  exact ⟨rfl, hx1⟩
set_option maxRecDepth 100000 in
set_option maxHeartbeats 3200000 in
theorem corners_bad (A : Option Addr) (n c : Nat) (l : List (Int × Int)) (w : World) (hn : l.length = n) (hV : Rd w A (ptv l)) (hb : n ≤ 140737488351232) (hE : wayE farP l ≠ 0) :
    Calls Try.prog 8 #[.slice A n c] w fun e w' => e = .returned (.bool true) ∧ Ext w w' := by
  have HC := hidA (Corners_bad A n c l w hn hV hE)
  have HW := fun (w' : World) (h : Ext w w') => hidA (WayErrorN_any A n c l w' hn (hV.ext h) hb)
  have HL := fun (w' : World) => hidA (leads_any w')
  have hne : (wayE farP l != 0) = true := by simpa using hE
  clear hE hn hV hb
  generalize wayE farP l = E at *
  go_enter Try.func8, Try.ntmps8
  go_wp2_with (first | (go_at_call 38; refine HC.out.mono ?_; rintro e w1 ⟨rfl, hx1⟩) | (go_at_call 39; refine ((HW _ (by repeat (first | exact Ext.refl _ | assumption | refine Ext.setCell ?_ (by first | (simp; done) | (simp; omega)) _ | refine Ext.drewN ?_ _ | refine Ext.alloc ?_ _ | refine Ext.drew ?_ | refine Ext.trans ?_ (by assumption)))).out).mono ?_; rintro e w2 ⟨rfl, hx2⟩) | (go_at_call 15; refine ((HL _).out).mono ?_; rintro e w3 ⟨rfl, hx3⟩))
  go_ret
  exact ⟨rfl, (by repeat (first | exact Ext.refl _ | assumption | refine Ext.setCell ?_ (by first | (simp; done) | (simp; omega)) _ | refine Ext.drewN ?_ _ | refine Ext.alloc ?_ _ | refine Ext.drew ?_ | refine Ext.trans ?_ (by assumption)))⟩
set_option maxRecDepth 100000 in
set_option maxHeartbeats 6400000 in
theorem corners_good (A : Option Addr) (n c : Nat) (l : List (Int × Int)) (w : World) (hn : l.length = n) (hV : Rd w A (ptv l)) (hb : n ≤ 140737488351232) (hE : wayE farP l = 0) :
    Calls Try.prog 8 #[.slice A n c] w fun e w' => e = .returned (.bool true) ∧ Ext w w' := by
  have hok := wayOk hE
  have HC := hidA (Corners_ok A n c l w hn hV hok hE)
  have HW := fun (w' : World) (h : Ext w w') => hidA (WayErrorN_any A n c l w' hn (hV.ext h) hb)
  rw [hE] at HW
  have HL := fun (w' : World) => hidA (leads_any w')
  have HBt := fun (qx qy px py : Int) (w : World) (h1 : farP (qx, qy) = false) (h2 : farP (px, py) = false) => hidA (Leap_any qx qy px py w (by have := farP_false h1; dsimp only at this; omega) (by have := farP_false h1; dsimp only at this; omega) (by have := farP_false h2; dsimp only at this; omega) (by have := farP_false h2; dsimp only at this; omega))
  have Hn := hidA hn
  have Hok := hidA hok
  have hn6 : n ≤ 65536 := by rw [← hn]; exact hok.le
  obtain ⟨ti, hi0, hz0, hz1, hz2⟩ := info_parts infoPt
  clear hok hE hn hb
  go_enter Try.func8, Try.ntmps8
  go_upto_region 7 with (first | (go_at_call 38; refine HC.out.mono ?_; rintro e w1 ⟨vC, rfl, hOC, hx1⟩) | (go_at_call 39; refine ((HW _ (by repeat (first | exact Ext.refl _ | assumption | refine Ext.setCell ?_ (by first | (simp; done) | (simp; omega)) _ | refine Ext.drewN ?_ _ | refine Ext.alloc ?_ _ | refine Ext.drew ?_ | refine Ext.trans ?_ (by assumption)))).out).mono ?_; rintro e w2 ⟨rfl, hx2⟩) | (go_at_call 15; refine ((HL _).out).mono ?_; rintro e w3 ⟨rfl, hx3⟩))
  have hxs := hx1.trans (hx2.trans hx3)
  have hOC3 := (hOC.ext hx2).ext hx3
  clear HC HW HL hx1 hx2 hx3 hOC
  have HOC := hidA hOC3
  have Hxs := hidA hxs
  have hsz3 := hxs.size
  clear hOC3 hxs
  go_loopw [6, 40] (fun s6 s40 wr => ∃ k : Nat, k ≤ n ∧ s40 = .int .i64 k ∧ OwnP wr w3.heap.size s6 (cornL l k) ∧ Ext w3 wr) (fun _ s40 _ => n - (intOf s40).toNat)
  case atStart => exact ⟨0, Nat.zero_le _, rfl, World.ownsRow_nil w3 _ _ 2, Ext.refl _⟩
  case round =>
    obtain ⟨k, hk, rfl, hO, hx⟩ := hrel
    by_cases hkn : k < n
    · have hkl : k < l.length := by have := Hn.out; omega
      obtain ⟨ad, rfl, hbk, d0, d1⟩ := pt_at (hV.ext (Hxs.out.trans hx)) hkl
      have i0 : (0 : Int) ≤ k := by omega
      have i1 : (k : Int) < n := by omega
      have hfp := Hok.out.ok k hkl
      obtain ⟨px, py, hpp⟩ : ∃ px py, l.getD k (0, 0) = (px, py) := ⟨_, _, rfl⟩
      rw [hpp] at d0 d1 hfp
      dsimp only at d0 d1
      have Hpp := hidA hpp
      have hcl := cornL_le l k
      go_upto_region 9 with fail
      have kP : Bk (wr.alloc (.cells #[.int .i64 px, .int .i64 py] 32)) wr.heap.size 32 #[.int .i64 px, .int .i64 py] := Bk.new' rfl
      have hx2 := hx.alloc (.cells #[.int .i64 px, .int .i64 py] 32)
      have hO2 := hO.ext ((Ext.refl wr).alloc (.cells #[.int .i64 px, .int .i64 py] 32))
      clear d0 d1 hpp hO
      generalize wr.alloc (.cells #[.int .i64 px, .int .i64 py] 32) = w2 at *
      generalize wr.heap.size = ha at *
      by_cases hedge : k = 0 ∨ k + 1 = n
      · have Hcb := hidA (show cornB l k = true from by unfold cornB; have := Hn.out; rcases hedge with h | h <;> simp [h]; omega)
        have hg : k = 0 ∨ ¬ k = 0 ∧ (k : Int) = n - 1 := by omega
        have Hx2 := hidA hx2
        have p0 := kP.cell 0
        have p1 := kP.cell 1
        clear hedge hx2 kP hfp
        have wn := IntWalk.wrap64_in ((n : Int) - 1) ⟨by omega, by omega⟩
        have Wn := hidA wn
        clear wn
        rcases hg with hg1 | ⟨hg1, hg2⟩
        · have bk : ((k : Int) == 0) = true := by simp; exact hg1
          clear hg1
          go_upto_region 15 with fail
          have hown2 := hidA (hO2.ext ((Ext.refl w2).alloc (.cells #[.int .i64 px, .int .i64 py] 32)))
          have hnews : Hid (∀ j u, ([Value.int .i64 px, .int .i64 py] : List Value)[j]? = some u → (w2.alloc (.cells #[.int .i64 px, .int .i64 py] 32)).cell? ((⟨w2.heap.size, 0, none⟩ : Addr).add j) = some u) := World.news_of_block (cs := #[.int .i64 px, .int .i64 py]) (t := 32) (fr := (0, 0)) (heap_alloc_new w2 _)
          have hone : Hid (∀ u ∈ ([Value.int .i64 px, .int .i64 py] : List Value), u.oneCell' = true) := by intro u hu; simp at hu; rcases hu with rfl | rfl <;> rfl
          have hs9 := hidA (show w3.heap.size ≤ (w2.alloc (.cells #[.int .i64 px, .int .i64 py] 32)).heap.size from by have := Hx2.out.size; rw [World.size_alloc]; omega)
          clear hO2
          go_wp2_with (at_builtin; (refine wpList_append_lies _ (by rfl) _ _ 46 (by rfl) w3.heap.size 32 ti (.agg #[.int .i64 0, .int .i64 0]) 2 16 Try.underlying46 hi0 hz0 hz1 hz2 (by rfl) (by decide) _ _ _ (by rfl) hown2.out ⟨w2.heap.size, 0, none⟩ 1 1 [.int .i64 px, .int .i64 py] (by rfl) (by rfl) hnews.out hone.out (by omega) (by unfold maxLen; omega) (by omega) hs9.out (w2.heap.size + 1) (by simp) ?_; intro gg cap w9 hown9 hgrow9 hat hlt))
          have hx9 := (Hx2.out.alloc (.cells #[.int .i64 px, .int .i64 py] 32)).grown hgrow9 (fun b hb => (World.ownsRow.lt hown2.out b hb).1)
          have HO9 := hidA hown9
          have Hx9 := hidA hx9
          clear hown9 hgrow9 hat hlt hx9
          go_roundw
          case rel => exact ⟨k + 1, by omega, by go_num, by have h8 := HO9.out; rw [cornL_succ, Hcb.out, Hpp.out]; unfold OwnP; simp only [if_true, ptv_append, List.length_append, List.length_cons, List.length_nil]; exact h8, Hx9.out⟩
          case measure => simp [intOf]; omega
        · have bk : ((k : Int) == 0) = false := by simp; exact hg1
          have bn : ((k : Int) == n - 1) = true := by simp; exact hg2
          clear hg1 hg2
          have wn := Wn.out
          go_upto_region 15 with fail
          clear wn
          have hown2 := hidA (hO2.ext ((Ext.refl w2).alloc (.cells #[.int .i64 px, .int .i64 py] 32)))
          have hnews : Hid (∀ j u, ([Value.int .i64 px, .int .i64 py] : List Value)[j]? = some u → (w2.alloc (.cells #[.int .i64 px, .int .i64 py] 32)).cell? ((⟨w2.heap.size, 0, none⟩ : Addr).add j) = some u) := World.news_of_block (cs := #[.int .i64 px, .int .i64 py]) (t := 32) (fr := (0, 0)) (heap_alloc_new w2 _)
          have hone : Hid (∀ u ∈ ([Value.int .i64 px, .int .i64 py] : List Value), u.oneCell' = true) := by intro u hu; simp at hu; rcases hu with rfl | rfl <;> rfl
          have hs9 := hidA (show w3.heap.size ≤ (w2.alloc (.cells #[.int .i64 px, .int .i64 py] 32)).heap.size from by have := Hx2.out.size; rw [World.size_alloc]; omega)
          clear hO2
          go_wp2_with (at_builtin; (refine wpList_append_lies _ (by rfl) _ _ 46 (by rfl) w3.heap.size 32 ti (.agg #[.int .i64 0, .int .i64 0]) 2 16 Try.underlying46 hi0 hz0 hz1 hz2 (by rfl) (by decide) _ _ _ (by rfl) hown2.out ⟨w2.heap.size, 0, none⟩ 1 1 [.int .i64 px, .int .i64 py] (by rfl) (by rfl) hnews.out hone.out (by omega) (by unfold maxLen; omega) (by omega) hs9.out (w2.heap.size + 1) (by simp) ?_; intro gg cap w9 hown9 hgrow9 hat hlt))
          have hx9 := (Hx2.out.alloc (.cells #[.int .i64 px, .int .i64 py] 32)).grown hgrow9 (fun b hb => (World.ownsRow.lt hown2.out b hb).1)
          have HO9 := hidA hown9
          have Hx9 := hidA hx9
          clear hown9 hgrow9 hat hlt hx9
          go_roundw
          case rel => exact ⟨k + 1, by omega, by go_num, by have h8 := HO9.out; rw [cornL_succ, Hcb.out, Hpp.out]; unfold OwnP; simp only [if_true, ptv_append, List.length_append, List.length_cons, List.length_nil]; exact h8, Hx9.out⟩
          case measure => simp [intOf]; omega
      · have hkp : 0 < k := by omega
        have hk1 : k + 1 < n := by omega
        have hg1 : ¬ k = 0 := by omega
        have hg2 : ¬ (k : Int) = n - 1 := by omega
        have hg3 : ((k : Int) == n - 1) = false := by simp; omega
        have hg4 : ((k : Int) == 0) = false := by simp; omega
        have s1 := Hok.out.st k hkp hkl
        have s2 := Hok.out.st (k + 1) (by omega) (by have := Hn.out; omega)
        rw [Nat.add_sub_cancel] at s2
        obtain ⟨qx, qy, hqq⟩ : ∃ qx qy, l.getD (k - 1) (0, 0) = (qx, qy) := ⟨_, _, rfl⟩
        obtain ⟨rx, ry, hrr⟩ : ∃ rx ry, l.getD (k + 1) (0, 0) = (rx, ry) := ⟨_, _, rfl⟩
        have hfq := Hok.out.ok (k - 1) (by omega)
        have hfr := Hok.out.ok (k + 1) (by have := Hn.out; omega)
        rw [Hpp.out, hqq] at s1
        rw [Hpp.out, hrr] at s2
        rw [hqq] at hfq
        rw [hrr] at hfr
        dsimp only at s1 s2
        have Hcb : Hid (cornB l k = !((lpo l k).1 == (lpo l (k + 1)).1 && (lpo l k).2 == 1 && (lpo l (k + 1)).2 == 1)) := by
          show _ = _
          unfold cornB
          have e1 : (k == 0) = false := by simp; omega
          have e2 : (k + 1 == l.length) = false := by simp; have := Hn.out; omega
          rw [e1, e2]
          simp
        have HB1 := fun (w : World) => HBt qx qy px py w hfq hfp
        have HB2 := fun (w : World) => HBt px py rx ry w hfp hfr
        unfold lpV at HB1 HB2
        rw [s1.1] at HB1
        rw [s2.1] at HB2
        obtain ⟨d1, n1, hl1⟩ : ∃ d1 n1, lpo l k = (d1, n1) := ⟨_, _, rfl⟩
        obtain ⟨d2, n2, hl2⟩ : ∃ d2 n2, lpo l (k + 1) = (d2, n2) := ⟨_, _, rfl⟩
        rw [hl1] at HB1 Hcb
        rw [hl2] at HB2 Hcb
        simp only at HB1 HB2
        have e0 : ∀ w', Ext w2 w' → w'.cell? (ad.add ((k - 1) * 2)) = some (.int .i64 qx) := fun w' h => by
          obtain ⟨ad', e, _, d0, _⟩ := pt_at (hV.ext (Hxs.out.trans (hx2.trans h))) (show k - 1 < l.length by omega)
          injection e with e
          subst e
          rw [hqq] at d0
          exact d0
        have e1 : ∀ w', Ext w2 w' → w'.cell? ⟨(ad.add ((k - 1) * 2)).block, (ad.add ((k - 1) * 2)).off + 1, none⟩ = some (.int .i64 qy) := fun w' h => by
          obtain ⟨ad', e, _, _, d1⟩ := pt_at (hV.ext (Hxs.out.trans (hx2.trans h))) (show k - 1 < l.length by omega)
          injection e with e
          subst e
          rw [hqq] at d1
          exact d1
        have e2 : ∀ w', Ext w2 w' → w'.cell? (ad.add ((k + 1) * 2)) = some (.int .i64 rx) := fun w' h => by
          obtain ⟨ad', e, _, d0, _⟩ := pt_at (hV.ext (Hxs.out.trans (hx2.trans h))) (show k + 1 < l.length by have := Hn.out; omega)
          injection e with e
          subst e
          rw [hrr] at d0
          exact d0
        have e3 : ∀ w', Ext w2 w' → w'.cell? ⟨(ad.add ((k + 1) * 2)).block, (ad.add ((k + 1) * 2)).off + 1, none⟩ = some (.int .i64 ry) := fun w' h => by
          obtain ⟨ad', e, _, _, d1⟩ := pt_at (hV.ext (Hxs.out.trans (hx2.trans h))) (show k + 1 < l.length by have := Hn.out; omega)
          injection e with e
          subst e
          rw [hrr] at d1
          exact d1
        have f0 : ∀ w', Ext w2 w' → w'.cell? ⟨ha, 0, none⟩ = some (.int .i64 px) := fun w' h => (kP.ext h).cell 0
        have f1 : ∀ w', Ext w2 w' → w'.cell? ⟨ha, 1, none⟩ = some (.int .i64 py) := fun w' h => (kP.ext h).cell 1
        have j0 : (0 : Int) ≤ ((k - 1 : Nat) : Int) := by omega
        have j1 : ((k - 1 : Nat) : Int) < n := by omega
        have j2 : (0 : Int) ≤ ((k + 1 : Nat) : Int) := by omega
        have j3 : ((k + 1 : Nat) : Int) < n := by omega
        have j4 : (k : Int) + 1 < n := by omega
        have Hwk := hidA (show wrap64 ((k : Int) - 1) = ((k - 1 : Nat) : Int) by rw [IntWalk.wrap64_in _ ⟨by omega, by omega⟩]; omega)
        have Hwk2 := hidA (show IntKind.i64.wrap ((k : Int) - 1) = ((k - 1 : Nat) : Int) by rw [IntWalk.i64_in _ ⟨by omega, by omega⟩]; omega)
        have Hwk3 := hidA (show wrap64 ((k : Int) + 1) = (k : Int) + 1 from IntWalk.wrap64_in _ ⟨by omega, by omega⟩)
        have Hwk4 := hidA (show IntKind.i64.wrap ((k : Int) + 1) = (k : Int) + 1 from IntWalk.i64_in _ ⟨by omega, by omega⟩)
        have j5 : (0 : Int) ≤ (k : Int) + 1 := by omega
        have Hwn := hidA (IntWalk.wrap64_in ((n : Int) - 1) ⟨by omega, by omega⟩)
        have hn11 := s1.2.2.1
        have hn21 := s2.2.2.1
        rw [hl1] at hn11
        rw [hl2] at hn21
        dsimp only at hn11 hn21
        have hcs : ¬ d1 = d2 ∨ (d1 = d2 ∧ 1 < n1) ∨ (d1 = d2 ∧ n1 = 1 ∧ 1 < n2) ∨ (d1 = d2 ∧ n1 = 1 ∧ n2 = 1) := by omega
        clear hn11 hn21
        have Hx2 := hidA hx2
        have KP := hidA kP
        clear hedge s1 s2 hl1 hl2 hqq hrr hfq hfr hfp HBt hx2 kP
        have wn := Hwn.out
        go_upto_region 11 with fail
        clear wn
        have wk := Hwk.out
        have wk2 := Hwk2.out
        refine wp_region_noPanic ?_
        refine wp_region_held_drew (S := fun w' => Ext w2 w') (by kernel_rfl) ?_ (fun hHeld => ?_)
        · (repeat (first | exact Ext.refl _ | assumption | refine Ext.setCell ?_ (by first | (simp; done) | (simp; omega)) _ | refine Ext.drewN ?_ _ | refine Ext.alloc ?_ _ | refine Ext.drew ?_ | refine Ext.trans ?_ (by assumption)))
        refine wpAnyH_take (i := 0) (oi := ?o1x0) (v := ?v1x0) ?hi1x0 (by kernel_rfl) ?hf1x0 ?hr1x0 (fun _ _ _ h => h) ?hy1x0 (by assumption) ?rest1x0
        case hi1x0 => (simp only [List.getElem?_toArray, List.getElem?_cons_zero]; exact rfl)
        case hf1x0 => kernel_rfl
        case hr1x0 => kernel_rfl
        case hy1x0 => (refine Or.inl ⟨by rfl, ?_⟩; intro w hSw; (try dsimp only at hSw); go_simp; try with_reducible rfl)
        simp only [put_mk, List.set_cons_succ, List.set_cons_zero]
        refine wpAnyH_take (i := 1) (oi := ?o1x1) (v := ?v1x1) ?hi1x1 (by kernel_rfl) ?hf1x1 ?hr1x1 (fun _ _ _ h => h) ?hy1x1 (by assumption) ?rest1x1
        case hi1x1 => (simp only [List.getElem?_toArray, List.getElem?_cons_succ, List.getElem?_cons_zero]; exact rfl)
        case hf1x1 => kernel_rfl
        case hr1x1 => kernel_rfl
        case hy1x1 => (refine Or.inl ⟨by rfl, ?_⟩; intro w hSw; (try dsimp only at hSw); go_simp; try with_reducible rfl)
        simp only [put_mk, List.set_cons_succ, List.set_cons_zero]
        refine wpAnyH_take (i := 2) (oi := ?o1x2) (v := ?v1x2) ?hi1x2 (by kernel_rfl) ?hf1x2 ?hr1x2 (fun _ _ _ h => h) ?hy1x2 (by assumption) ?rest1x2
        case hi1x2 => (simp only [List.getElem?_toArray, List.getElem?_cons_succ, List.getElem?_cons_zero]; exact rfl)
        case hf1x2 => kernel_rfl
        case hr1x2 => kernel_rfl
        case hy1x2 => (refine Or.inl ⟨by rfl, ?_⟩; intro w hSw; (try dsimp only at hSw); go_simp; try with_reducible rfl)
        simp only [put_mk, List.set_cons_succ, List.set_cons_zero]
        refine wpAnyH_take (i := 3) (oi := ?o1x3) (v := ?v1x3) ?hi1x3 (by kernel_rfl) ?hf1x3 ?hr1x3 (fun _ _ _ h => h) ?hy1x3 (by assumption) ?rest1x3
        case hi1x3 => (simp only [List.getElem?_toArray, List.getElem?_cons_succ, List.getElem?_cons_zero]; exact rfl)
        case hf1x3 => kernel_rfl
        case hr1x3 => kernel_rfl
        case hy1x3 => (refine Or.inl ⟨by rfl, ?_⟩; intro w hSw; (try dsimp only at hSw); go_simp; try with_reducible rfl)
        simp only [put_mk, List.set_cons_succ, List.set_cons_zero]
        refine wpAnyH_take (i := 4) (oi := ?o1x4) (v := ?v1x4) ?hi1x4 (by kernel_rfl) ?hf1x4 ?hr1x4 (fun _ _ _ h => h) ?hy1x4 (by assumption) ?rest1x4
        case hi1x4 => (simp only [List.getElem?_toArray, List.getElem?_cons_succ, List.getElem?_cons_zero]; exact rfl)
        case hf1x4 => kernel_rfl
        case hr1x4 => kernel_rfl
        case hy1x4 => (refine Or.inl ⟨by rfl, ?_⟩; intro w hSw; (try dsimp only at hSw); go_simp; try with_reducible rfl)
        simp only [put_mk, List.set_cons_succ, List.set_cons_zero]
        refine wpAnyH_take (i := 5) (oi := ?o1x5) (v := ?v1x5) ?hi1x5 (by kernel_rfl) ?hf1x5 ?hr1x5 (fun _ _ _ h => h) ?hy1x5 (by assumption) ?rest1x5
        case hi1x5 => (simp only [List.getElem?_toArray, List.getElem?_cons_succ, List.getElem?_cons_zero]; exact rfl)
        case hf1x5 => kernel_rfl
        case hr1x5 => kernel_rfl
        case hy1x5 => (refine Or.inl ⟨by rfl, ?_⟩; intro w hSw; (try dsimp only at hSw); go_simp; try with_reducible rfl)
        simp only [put_mk, List.set_cons_succ, List.set_cons_zero]
        refine wpAnyH_ready (rs := [6]) (by kernel_rfl) (by simp) ?_
        refine AllReadyH.cons (o := ?o1x6) ?hi1x6 (fun K hK => ?_) AllReadyH.nil
        case hi1x6 => (simp only [List.getElem?_toArray, List.getElem?_cons_succ, List.getElem?_cons_zero]; exact rfl)
        go_simp
        go_at_call 36; refine ((HB1 _).out).mono ?_; rintro e w5 ⟨rfl, hx5⟩
        refine hK.out _ _ ?_ (fun hHeld => ?_)
        · (repeat (first | exact Ext.refl _ | assumption | refine Ext.setCell ?_ (by first | (simp; done) | (simp; omega)) _ | refine Ext.drewN ?_ _ | refine Ext.alloc ?_ _ | refine Ext.drew ?_ | refine Ext.trans ?_ (by assumption)))
        clear hK K
        refine wpAnyH_take (i := 7) (oi := ?o1x7) (v := ?v1x7) ?hi1x7 (by kernel_rfl) ?hf1x7 ?hr1x7 (fun _ _ _ h => h) ?hy1x7 (by assumption) ?rest1x7
        case hi1x7 => (simp only [List.getElem?_toArray, List.getElem?_cons_succ, List.getElem?_cons_zero]; exact rfl)
        case hf1x7 => kernel_rfl
        case hr1x7 => kernel_rfl
        case hy1x7 => (refine Or.inl ⟨by rfl, ?_⟩; intro w hSw; (try dsimp only at hSw); go_simp; try with_reducible rfl)
        simp only [put_mk, List.set_cons_succ, List.set_cons_zero]
        refine wpAnyH_take (i := 8) (oi := ?o1x8) (v := ?v1x8) ?hi1x8 (by kernel_rfl) ?hf1x8 ?hr1x8 (fun _ _ _ h => h) ?hy1x8 (by assumption) ?rest1x8
        case hi1x8 => (simp only [List.getElem?_toArray, List.getElem?_cons_succ, List.getElem?_cons_zero]; exact rfl)
        case hf1x8 => kernel_rfl
        case hr1x8 => kernel_rfl
        case hy1x8 => (refine Or.inl ⟨by rfl, ?_⟩; intro w hSw; (try dsimp only at hSw); go_simp; try with_reducible rfl)
        simp only [put_mk, List.set_cons_succ, List.set_cons_zero]
        refine wpAnyH_take (i := 9) (oi := ?o1x9) (v := ?v1x9) ?hi1x9 (by kernel_rfl) ?hf1x9 ?hr1x9 (fun _ _ _ h => h) ?hy1x9 (by assumption) ?rest1x9
        case hi1x9 => (simp only [List.getElem?_toArray, List.getElem?_cons_succ, List.getElem?_cons_zero]; exact rfl)
        case hf1x9 => kernel_rfl
        case hr1x9 => kernel_rfl
        case hy1x9 => (refine Or.inl ⟨by rfl, ?_⟩; intro w hSw; (try dsimp only at hSw); go_simp; try with_reducible rfl)
        simp only [put_mk, List.set_cons_succ, List.set_cons_zero]
        refine wpAnyH_take (i := 10) (oi := ?o1x10) (v := ?v1x10) ?hi1x10 (by kernel_rfl) ?hf1x10 ?hr1x10 (fun _ _ _ h => h) ?hy1x10 (by assumption) ?rest1x10
        case hi1x10 => (simp only [List.getElem?_toArray, List.getElem?_cons_succ, List.getElem?_cons_zero]; exact rfl)
        case hf1x10 => kernel_rfl
        case hr1x10 => kernel_rfl
        case hy1x10 => (refine Or.inl ⟨by rfl, ?_⟩; intro w hSw; (try dsimp only at hSw); go_simp; try with_reducible rfl)
        simp only [put_mk, List.set_cons_succ, List.set_cons_zero]
        refine wpAnyH_take (i := 11) (oi := ?o1x11) (v := ?v1x11) ?hi1x11 (by kernel_rfl) ?hf1x11 ?hr1x11 (fun _ _ _ h => h) ?hy1x11 (by assumption) ?rest1x11
        case hi1x11 => (simp only [List.getElem?_toArray, List.getElem?_cons_succ, List.getElem?_cons_zero]; exact rfl)
        case hf1x11 => kernel_rfl
        case hr1x11 => kernel_rfl
        case hy1x11 => (refine Or.inl ⟨by rfl, ?_⟩; intro w hSw; (try dsimp only at hSw); go_simp; try with_reducible rfl)
        simp only [put_mk, List.set_cons_succ, List.set_cons_zero]
        refine wpAnyH_done (by kernel_rfl) ?_ _
        refine NoPanic.normal ?_
        clear wk wk2 e0 e1
        have hx5 : Ext w2 w5 := hHeld
        have E2 := fun (w' : World) (h : Ext w5 w') => e2 w' (hx5.trans h)
        have E3 := fun (w' : World) (h : Ext w5 w') => e3 w' (hx5.trans h)
        have F0 := fun (w' : World) (h : Ext w5 w') => f0 w' (hx5.trans h)
        have F1 := fun (w' : World) (h : Ext w5 w') => f1 w' (hx5.trans h)
        clear e2 e3 f0 f1
        go_upto_region 12 with fail
        have wk := Hwk3.out
        have wk2 := Hwk4.out
        refine wp_region_noPanic ?_
        refine wp_region_held_drew (S := fun w' => Ext w5 w') (by kernel_rfl) ?_ (fun hHeld => ?_)
        · (repeat (first | exact Ext.refl _ | assumption | refine Ext.setCell ?_ (by first | (simp; done) | (simp; omega)) _ | refine Ext.drewN ?_ _ | refine Ext.alloc ?_ _ | refine Ext.drew ?_ | refine Ext.trans ?_ (by assumption)))
        refine wpAnyH_take (i := 0) (oi := ?o2x0) (v := ?v2x0) ?hi2x0 (by kernel_rfl) ?hf2x0 ?hr2x0 (fun _ _ _ h => h) ?hy2x0 (by assumption) ?rest2x0
        case hi2x0 => (simp only [List.getElem?_toArray, List.getElem?_cons_zero]; exact rfl)
        case hf2x0 => kernel_rfl
        case hr2x0 => kernel_rfl
        case hy2x0 => (refine Or.inl ⟨by rfl, ?_⟩; intro w hSw; (try dsimp only at hSw); go_simp; try with_reducible rfl)
        simp only [put_mk, List.set_cons_succ, List.set_cons_zero]
        refine wpAnyH_take (i := 1) (oi := ?o2x1) (v := ?v2x1) ?hi2x1 (by kernel_rfl) ?hf2x1 ?hr2x1 (fun _ _ _ h => h) ?hy2x1 (by assumption) ?rest2x1
        case hi2x1 => (simp only [List.getElem?_toArray, List.getElem?_cons_succ, List.getElem?_cons_zero]; exact rfl)
        case hf2x1 => kernel_rfl
        case hr2x1 => kernel_rfl
        case hy2x1 => (refine Or.inl ⟨by rfl, ?_⟩; intro w hSw; (try dsimp only at hSw); go_simp; try with_reducible rfl)
        simp only [put_mk, List.set_cons_succ, List.set_cons_zero]
        refine wpAnyH_take (i := 2) (oi := ?o2x2) (v := ?v2x2) ?hi2x2 (by kernel_rfl) ?hf2x2 ?hr2x2 (fun _ _ _ h => h) ?hy2x2 (by assumption) ?rest2x2
        case hi2x2 => (simp only [List.getElem?_toArray, List.getElem?_cons_succ, List.getElem?_cons_zero]; exact rfl)
        case hf2x2 => kernel_rfl
        case hr2x2 => kernel_rfl
        case hy2x2 => (refine Or.inl ⟨by rfl, ?_⟩; intro w hSw; (try dsimp only at hSw); go_simp; try with_reducible rfl)
        simp only [put_mk, List.set_cons_succ, List.set_cons_zero]
        refine wpAnyH_take (i := 3) (oi := ?o2x3) (v := ?v2x3) ?hi2x3 (by kernel_rfl) ?hf2x3 ?hr2x3 (fun _ _ _ h => h) ?hy2x3 (by assumption) ?rest2x3
        case hi2x3 => (simp only [List.getElem?_toArray, List.getElem?_cons_succ, List.getElem?_cons_zero]; exact rfl)
        case hf2x3 => kernel_rfl
        case hr2x3 => kernel_rfl
        case hy2x3 => (refine Or.inl ⟨by rfl, ?_⟩; intro w hSw; (try dsimp only at hSw); go_simp; try with_reducible rfl)
        simp only [put_mk, List.set_cons_succ, List.set_cons_zero]
        refine wpAnyH_take (i := 4) (oi := ?o2x4) (v := ?v2x4) ?hi2x4 (by kernel_rfl) ?hf2x4 ?hr2x4 (fun _ _ _ h => h) ?hy2x4 (by assumption) ?rest2x4
        case hi2x4 => (simp only [List.getElem?_toArray, List.getElem?_cons_succ, List.getElem?_cons_zero]; exact rfl)
        case hf2x4 => kernel_rfl
        case hr2x4 => kernel_rfl
        case hy2x4 => (refine Or.inl ⟨by rfl, ?_⟩; intro w hSw; (try dsimp only at hSw); go_simp; try with_reducible rfl)
        simp only [put_mk, List.set_cons_succ, List.set_cons_zero]
        refine wpAnyH_take (i := 5) (oi := ?o2x5) (v := ?v2x5) ?hi2x5 (by kernel_rfl) ?hf2x5 ?hr2x5 (fun _ _ _ h => h) ?hy2x5 (by assumption) ?rest2x5
        case hi2x5 => (simp only [List.getElem?_toArray, List.getElem?_cons_succ, List.getElem?_cons_zero]; exact rfl)
        case hf2x5 => kernel_rfl
        case hr2x5 => kernel_rfl
        case hy2x5 => (refine Or.inl ⟨by rfl, ?_⟩; intro w hSw; (try dsimp only at hSw); go_simp; try with_reducible rfl)
        simp only [put_mk, List.set_cons_succ, List.set_cons_zero]
        refine wpAnyH_ready (rs := [6]) (by kernel_rfl) (by simp) ?_
        refine AllReadyH.cons (o := ?o2x6) ?hi2x6 (fun K hK => ?_) AllReadyH.nil
        case hi2x6 => (simp only [List.getElem?_toArray, List.getElem?_cons_succ, List.getElem?_cons_zero]; exact rfl)
        go_simp
        go_at_call 36; refine ((HB2 _).out).mono ?_; rintro e w6 ⟨rfl, hx6⟩
        refine hK.out _ _ ?_ (fun hHeld => ?_)
        · (repeat (first | exact Ext.refl _ | assumption | refine Ext.setCell ?_ (by first | (simp; done) | (simp; omega)) _ | refine Ext.drewN ?_ _ | refine Ext.alloc ?_ _ | refine Ext.drew ?_ | refine Ext.trans ?_ (by assumption)))
        clear hK K
        refine wpAnyH_take (i := 7) (oi := ?o2x7) (v := ?v2x7) ?hi2x7 (by kernel_rfl) ?hf2x7 ?hr2x7 (fun _ _ _ h => h) ?hy2x7 (by assumption) ?rest2x7
        case hi2x7 => (simp only [List.getElem?_toArray, List.getElem?_cons_succ, List.getElem?_cons_zero]; exact rfl)
        case hf2x7 => kernel_rfl
        case hr2x7 => kernel_rfl
        case hy2x7 => (refine Or.inl ⟨by rfl, ?_⟩; intro w hSw; (try dsimp only at hSw); go_simp; try with_reducible rfl)
        simp only [put_mk, List.set_cons_succ, List.set_cons_zero]
        refine wpAnyH_take (i := 8) (oi := ?o2x8) (v := ?v2x8) ?hi2x8 (by kernel_rfl) ?hf2x8 ?hr2x8 (fun _ _ _ h => h) ?hy2x8 (by assumption) ?rest2x8
        case hi2x8 => (simp only [List.getElem?_toArray, List.getElem?_cons_succ, List.getElem?_cons_zero]; exact rfl)
        case hf2x8 => kernel_rfl
        case hr2x8 => kernel_rfl
        case hy2x8 => (refine Or.inl ⟨by rfl, ?_⟩; intro w hSw; (try dsimp only at hSw); go_simp; try with_reducible rfl)
        simp only [put_mk, List.set_cons_succ, List.set_cons_zero]
        refine wpAnyH_take (i := 9) (oi := ?o2x9) (v := ?v2x9) ?hi2x9 (by kernel_rfl) ?hf2x9 ?hr2x9 (fun _ _ _ h => h) ?hy2x9 (by assumption) ?rest2x9
        case hi2x9 => (simp only [List.getElem?_toArray, List.getElem?_cons_succ, List.getElem?_cons_zero]; exact rfl)
        case hf2x9 => kernel_rfl
        case hr2x9 => kernel_rfl
        case hy2x9 => (refine Or.inl ⟨by rfl, ?_⟩; intro w hSw; (try dsimp only at hSw); go_simp; try with_reducible rfl)
        simp only [put_mk, List.set_cons_succ, List.set_cons_zero]
        refine wpAnyH_take (i := 10) (oi := ?o2x10) (v := ?v2x10) ?hi2x10 (by kernel_rfl) ?hf2x10 ?hr2x10 (fun _ _ _ h => h) ?hy2x10 (by assumption) ?rest2x10
        case hi2x10 => (simp only [List.getElem?_toArray, List.getElem?_cons_succ, List.getElem?_cons_zero]; exact rfl)
        case hf2x10 => kernel_rfl
        case hr2x10 => kernel_rfl
        case hy2x10 => (refine Or.inl ⟨by rfl, ?_⟩; intro w hSw; (try dsimp only at hSw); go_simp; try with_reducible rfl)
        simp only [put_mk, List.set_cons_succ, List.set_cons_zero]
        refine wpAnyH_take (i := 11) (oi := ?o2x11) (v := ?v2x11) ?hi2x11 (by kernel_rfl) ?hf2x11 ?hr2x11 (fun _ _ _ h => h) ?hy2x11 (by assumption) ?rest2x11
        case hi2x11 => (simp only [List.getElem?_toArray, List.getElem?_cons_succ, List.getElem?_cons_zero]; exact rfl)
        case hf2x11 => kernel_rfl
        case hr2x11 => kernel_rfl
        case hy2x11 => (refine Or.inl ⟨by rfl, ?_⟩; intro w hSw; (try dsimp only at hSw); go_simp; try with_reducible rfl)
        simp only [put_mk, List.set_cons_succ, List.set_cons_zero]
        refine wpAnyH_done (by kernel_rfl) ?_ _
        refine NoPanic.normal ?_
        clear wk wk2
        have hx6 : Ext w2 w6 := hx5.trans hHeld
        have hO6 := hO2.ext hx6
        have kP6 := KP.out.ext hx6
        have hx66 := Hx2.out.trans hx6
        clear E2 E3 F0 F1 hO2 hx5 hx6 hHeld KP Hx2
        have p0 := kP6.cell 0
        have p1 := kP6.cell 1
        have Hx2 := hidA hx66
        have hO2 := hO6
        clear hO6 hx66 kP6
        rcases hcs with q1 | ⟨q1, q2⟩ | ⟨q1, q2, q3⟩ | ⟨q1, q2, q3⟩
        · have Hcb := hidA (show cornB l k = true from by rw [Hcb.out]; simp [q1])
          have q1' : ((d1 : Int) != d2) = true := by simp; omega
          go_upto_region 15 with fail
          have hown2 := hidA (hO2.ext ((Ext.refl w6).alloc (.cells #[.int .i64 px, .int .i64 py] 32)))
          have hnews : Hid (∀ j u, ([Value.int .i64 px, .int .i64 py] : List Value)[j]? = some u → (w6.alloc (.cells #[.int .i64 px, .int .i64 py] 32)).cell? ((⟨w6.heap.size, 0, none⟩ : Addr).add j) = some u) := World.news_of_block (cs := #[.int .i64 px, .int .i64 py]) (t := 32) (fr := (0, 0)) (heap_alloc_new w6 _)
          have hone : Hid (∀ u ∈ ([Value.int .i64 px, .int .i64 py] : List Value), u.oneCell' = true) := by intro u hu; simp at hu; rcases hu with rfl | rfl <;> rfl
          have hs9 := hidA (show w3.heap.size ≤ (w6.alloc (.cells #[.int .i64 px, .int .i64 py] 32)).heap.size from by have := Hx2.out.size; rw [World.size_alloc]; omega)
          clear hO2
          go_wp2_with (at_builtin; (refine wpList_append_lies _ (by rfl) _ _ 46 (by rfl) w3.heap.size 32 ti (.agg #[.int .i64 0, .int .i64 0]) 2 16 Try.underlying46 hi0 hz0 hz1 hz2 (by rfl) (by decide) _ _ _ (by rfl) hown2.out ⟨w6.heap.size, 0, none⟩ 1 1 [.int .i64 px, .int .i64 py] (by rfl) (by rfl) hnews.out hone.out (by omega) (by unfold maxLen; omega) (by omega) hs9.out (w6.heap.size + 1) (by simp) ?_; intro gg cap w9 hown9 hgrow9 hat hlt))
          have hx9 := (Hx2.out.alloc (.cells #[.int .i64 px, .int .i64 py] 32)).grown hgrow9 (fun b hb => (World.ownsRow.lt hown2.out b hb).1)
          have HO9 := hidA hown9
          have Hx9 := hidA hx9
          clear hown9 hgrow9 hat hlt hx9
          go_roundw
          case rel => exact ⟨k + 1, by omega, by go_num, by have h8 := HO9.out; rw [cornL_succ, Hcb.out, Hpp.out]; unfold OwnP; simp only [if_true, ptv_append, List.length_append, List.length_cons, List.length_nil]; exact h8, Hx9.out⟩
          case measure => simp [intOf]; omega
        · have Hcb := hidA (show cornB l k = true from by rw [Hcb.out]; simp [show (n1 == 1) = false from by simp; omega])
          have q1' : ((d1 : Int) != d2) = false := by simp; omega
          have q2' : decide ((1 : Int) < n1) = true := by simp; omega
          go_upto_region 15 with fail
          have hown2 := hidA (hO2.ext ((Ext.refl w6).alloc (.cells #[.int .i64 px, .int .i64 py] 32)))
          have hnews : Hid (∀ j u, ([Value.int .i64 px, .int .i64 py] : List Value)[j]? = some u → (w6.alloc (.cells #[.int .i64 px, .int .i64 py] 32)).cell? ((⟨w6.heap.size, 0, none⟩ : Addr).add j) = some u) := World.news_of_block (cs := #[.int .i64 px, .int .i64 py]) (t := 32) (fr := (0, 0)) (heap_alloc_new w6 _)
          have hone : Hid (∀ u ∈ ([Value.int .i64 px, .int .i64 py] : List Value), u.oneCell' = true) := by intro u hu; simp at hu; rcases hu with rfl | rfl <;> rfl
          have hs9 := hidA (show w3.heap.size ≤ (w6.alloc (.cells #[.int .i64 px, .int .i64 py] 32)).heap.size from by have := Hx2.out.size; rw [World.size_alloc]; omega)
          clear hO2
          go_wp2_with (at_builtin; (refine wpList_append_lies _ (by rfl) _ _ 46 (by rfl) w3.heap.size 32 ti (.agg #[.int .i64 0, .int .i64 0]) 2 16 Try.underlying46 hi0 hz0 hz1 hz2 (by rfl) (by decide) _ _ _ (by rfl) hown2.out ⟨w6.heap.size, 0, none⟩ 1 1 [.int .i64 px, .int .i64 py] (by rfl) (by rfl) hnews.out hone.out (by omega) (by unfold maxLen; omega) (by omega) hs9.out (w6.heap.size + 1) (by simp) ?_; intro gg cap w9 hown9 hgrow9 hat hlt))
          have hx9 := (Hx2.out.alloc (.cells #[.int .i64 px, .int .i64 py] 32)).grown hgrow9 (fun b hb => (World.ownsRow.lt hown2.out b hb).1)
          have HO9 := hidA hown9
          have Hx9 := hidA hx9
          clear hown9 hgrow9 hat hlt hx9
          go_roundw
          case rel => exact ⟨k + 1, by omega, by go_num, by have h8 := HO9.out; rw [cornL_succ, Hcb.out, Hpp.out]; unfold OwnP; simp only [if_true, ptv_append, List.length_append, List.length_cons, List.length_nil]; exact h8, Hx9.out⟩
          case measure => simp [intOf]; omega
        · have Hcb := hidA (show cornB l k = true from by rw [Hcb.out]; simp [show (n2 == 1) = false from by simp; omega])
          have q1' : ((d1 : Int) != d2) = false := by simp; omega
          have q2' : decide ((1 : Int) < n1) = false := by simp; omega
          have q3' : decide ((1 : Int) < n2) = true := by simp; omega
          go_upto_region 15 with fail
          have hown2 := hidA (hO2.ext ((Ext.refl w6).alloc (.cells #[.int .i64 px, .int .i64 py] 32)))
          have hnews : Hid (∀ j u, ([Value.int .i64 px, .int .i64 py] : List Value)[j]? = some u → (w6.alloc (.cells #[.int .i64 px, .int .i64 py] 32)).cell? ((⟨w6.heap.size, 0, none⟩ : Addr).add j) = some u) := World.news_of_block (cs := #[.int .i64 px, .int .i64 py]) (t := 32) (fr := (0, 0)) (heap_alloc_new w6 _)
          have hone : Hid (∀ u ∈ ([Value.int .i64 px, .int .i64 py] : List Value), u.oneCell' = true) := by intro u hu; simp at hu; rcases hu with rfl | rfl <;> rfl
          have hs9 := hidA (show w3.heap.size ≤ (w6.alloc (.cells #[.int .i64 px, .int .i64 py] 32)).heap.size from by have := Hx2.out.size; rw [World.size_alloc]; omega)
          clear hO2
          go_wp2_with (at_builtin; (refine wpList_append_lies _ (by rfl) _ _ 46 (by rfl) w3.heap.size 32 ti (.agg #[.int .i64 0, .int .i64 0]) 2 16 Try.underlying46 hi0 hz0 hz1 hz2 (by rfl) (by decide) _ _ _ (by rfl) hown2.out ⟨w6.heap.size, 0, none⟩ 1 1 [.int .i64 px, .int .i64 py] (by rfl) (by rfl) hnews.out hone.out (by omega) (by unfold maxLen; omega) (by omega) hs9.out (w6.heap.size + 1) (by simp) ?_; intro gg cap w9 hown9 hgrow9 hat hlt))
          have hx9 := (Hx2.out.alloc (.cells #[.int .i64 px, .int .i64 py] 32)).grown hgrow9 (fun b hb => (World.ownsRow.lt hown2.out b hb).1)
          have HO9 := hidA hown9
          have Hx9 := hidA hx9
          clear hown9 hgrow9 hat hlt hx9
          go_roundw
          case rel => exact ⟨k + 1, by omega, by go_num, by have h8 := HO9.out; rw [cornL_succ, Hcb.out, Hpp.out]; unfold OwnP; simp only [if_true, ptv_append, List.length_append, List.length_cons, List.length_nil]; exact h8, Hx9.out⟩
          case measure => simp [intOf]; omega
        · have Hcb := hidA (show cornB l k = false from by rw [Hcb.out]; simp [q1, q2, q3])
          have q1' : ((d1 : Int) != d2) = false := by simp; omega
          have q2' : decide ((1 : Int) < n1) = false := by simp; omega
          have q3' : decide ((1 : Int) < n2) = false := by simp; omega
          have HO2 := hidA hO2
          clear hO2
          go_wp2
          go_roundw
          case rel => exact ⟨k + 1, by omega, by go_num, by rw [cornL_succ, Hcb.out]; simpa using HO2.out, Hx2.out⟩
          case measure => simp [intOf]; omega
    · have hkn2 : n = k := by omega
      subst hkn2
      obtain ⟨B1, c1, rfl, hr1⟩ := (HOC.out.ext hx).any
      obtain ⟨B2, c2, rfl, hr2⟩ := hO.any
      have hcl := cornL_le l n
      have HEq := hidA (eqPts_same B1 B2 _ c1 c2 (cornL l n) wr rfl hr1 hr2 (by omega))
      have Hend := hidA (Hxs.out.trans hx)
      clear hO hr1 hr2 hx
      go_wp2_with (go_at_call 26; refine HEq.out.mono ?_; rintro e w9 ⟨rfl, hx9⟩)
      go_ret
      exact ⟨rfl, Hend.out.trans hx9⟩
theorem corners_walk (A : Option Addr) (n c : Nat) (l : List (Int × Int)) (w : World) (hn : l.length = n) (hV : Rd w A (ptv l)) (hb : n ≤ 140737488351232) :
    Calls Try.prog 8 #[.slice A n c] w fun e w' => e = .returned (.bool true) ∧ Ext w w' := by
  by_cases hE : wayE farP l = 0
  · exact corners_good A n c l w hn hV hb hE
  · exact corners_bad A n c l w hn hV hb hE
end Go.Proofs.Ytpgdinpckolfpaa
