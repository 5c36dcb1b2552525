/- The law RoundedMatches. -/
import Derived.Test.YtpgdinpckolfpaaRvAD
namespace Go.Proofs.Ytpgdinpckolfpaa
open Go.RowKit
attribute [local go_sem ↓] Go.wp_at_zero Go.wp_at_succ
attribute [local go_sem] run_store_float

/-- the rest of the error, from place k on -/
def tlE (l : List (Int × Int)) (t : Int) (k : Nat) : Int := if plI l k (l.length - k) ≠ 0 then plI l k (l.length - k) else rnB t
theorem first2 (a z : Int) : firstE [a, z] = if a = 0 then z else a := by
  by_cases h : a = 0
  · rw [if_pos h]
    unfold firstE
    rw [if_pos h]
    unfold firstE
    by_cases h2 : z = 0
    · rw [if_pos h2, h2]; rfl
    · rw [if_neg h2]
  · rw [if_neg h]
    unfold firstE
    rw [if_neg h]
theorem tl_far {l : List (Int × Int)} {t a : Int} {k : Nat} (h : k < l.length) (hf : farP (l.getD k (0, 0)) = true) : firstE [firstE [a, 5], tlE l t (k + 1)] = firstE [a, tlE l t k] := by
  have e : tlE l t k = 5 := by
    unfold tlE
    rw [plI_step h, if_pos hf]
    rfl
  rw [e]
  simp only [first2]
  split <;> simp_all
theorem tl_near {l : List (Int × Int)} {t a : Int} {k : Nat} (h : k < l.length) (hf : farP (l.getD k (0, 0)) = false) : firstE [firstE [a, 0], tlE l t (k + 1)] = firstE [a, tlE l t k] := by
  have e2 : plI l k (l.length - k) = plI l (k + 1) (l.length - (k + 1)) := by rw [plI_step h, hf]; rfl
  have e : tlE l t k = tlE l t (k + 1) := by
    unfold tlE
    rw [e2]
  rw [e]
  simp only [first2]
  split <;> simp_all
theorem tl_end (l : List (Int × Int)) (t : Int) : tlE l t l.length = rnB t := by
  unfold tlE
  rw [Nat.sub_self]
  rfl
theorem rn_form (q : Nat) : firstE [if q = 0 then 10 else 0, if (200 : Int) < (q : Int) then 4 else 0] = rnA q := by
  unfold rnA
  by_cases h0 : q = 0
  · rw [if_pos h0, if_pos h0]; rfl
  · rw [if_neg h0, if_neg h0]
    by_cases h : 200 < q
    · rw [if_pos h, if_pos (show (200 : Int) < q by omega)]; rfl
    · rw [if_neg h, if_neg (show ¬ (200 : Int) < q by omega)]; rfl
theorem rnd_tl (l : List (Int × Int)) (t : Int) : firstE [rnA l.length, tlE l t 0] = rndE l t := by
  unfold tlE rndE
  rw [first2, Nat.sub_zero]
  by_cases h : rnA l.length = 0
  · rw [if_pos h, if_neg (show ¬ rnA l.length ≠ 0 from fun h2 => h2 h)]
  · rw [if_neg h, if_pos h]
theorem rnB_w (t : Int) : rnB t = if (decide (0 ≤ t) && decide (t ≤ 6)) = true then 0 else 3 := by
  unfold rnB
  simp
theorem far_w2 (x y : Int) : farP (x, y) = !((decide (-4194304 ≤ x) && decide (x ≤ 4194304)) && (decide (-4194304 ≤ y) && decide (y ≤ 4194304))) := by
  unfold farP
  rw [Bool.eq_iff_iff]
  simp
  omega
theorem maxb {n k : Nat} (h : n ≤ 8796093021952) (hk : k ≤ n) : k + 1 ≤ maxLen ∧ (k + 1) * 8 ≤ 140737488355328 := by unfold maxLen; omega
theorem rnd_zero {l : List (Int × Int)} {t : Int} (h : rndE l t = 0) : 1 ≤ l.length ∧ l.length ≤ 200 ∧ (∀ i, i < l.length → farP (l.getD i (0, 0)) = false) ∧ 0 ≤ t ∧ t ≤ 6 := by
  unfold rndE at h
  split at h
  · rename_i h1; exact absurd h h1
  · rename_i h1
    have h1 : rnA l.length = 0 := by simpa using h1
    split at h
    · rename_i h2; exact absurd h h2
    · rename_i h2
      have h2 : plI l 0 l.length = 0 := by simpa using h2
      refine ⟨(rnA_le h1).1, (rnA_le h1).2, fun i hi => plI_ok l.length 0 h2 i (Nat.zero_le _) (by omega), ?_⟩
      unfold rnB at h
      split at h
      · assumption
      · cases h
theorem nx_s2 {j q : Nat} (h1 : j + 1 < q) : q - (intOf (.int .i64 ((j : Int) + 1 + 1))).toNat < q - (intOf (.int .i64 ((j + 1 : Nat) : Int))).toNat := by
  simp [intOf]
  omega
set_option maxRecDepth 100000 in
set_option maxHeartbeats 6400000 in
theorem rounded_walk (A : Option Addr) (n c : Nat) (l : List (Int × Int)) (t : Int) (w : World) (hn : l.length = n) (hV : Rd w A (ptv l)) (hnb : n ≤ 8796093021952) :
    Calls Try.prog 9 #[.slice A n c, .int .i64 t] w fun e w' => e = .returned (.bool true) ∧ Ext w w' := by
  have HRo := hidA (Rounded_any A n c l t w hn hV)
  have HL := fun (w : World) => hidA (leads_any w)
  have HWh := fun (b : Bool) (k : Int) (w : World) => hidA (when_any b k w)
  have HS2 := fun (a b : Int) (B : Option Addr) (w : World) (h : Rd w B [.int .i64 a, .int .i64 b]) => hidA (first_any B 2 2 [a, b] w rfl h (by omega))
  have HWi := fun (x lo hi : Int) (w : World) => hidA (within_any x lo hi w)
  have HWf := fun (k : Int) (w : World) => hidA (show Calls Try.prog 19 #[.bool false, .int .i64 k] w fun e w' => e = .returned (.int .i64 0) ∧ w = w' from when_any false k w)
  have HWt := fun (k : Int) (w : World) => hidA (show Calls Try.prog 19 #[.bool true, .int .i64 k] w fun e w' => e = .returned (.int .i64 k) ∧ w = w' from when_any true k w)
  have Hn := hidA hn
  have Hnb := hidA hnb
  have Hini := hidA (show firstE [rnA n, tlE l t 0] = rndE l t from by rw [← hn]; exact rnd_tl l t)
  have Hend := hidA (show tlE l t n = rnB t from by rw [← hn]; exact tl_end l t)
  have Hbw := hidA (rnB_w t)
  have Hzero := hidA (fun (h : rndE l t = 0) => rnd_zero h)
  obtain ⟨ti, hi0, hz0, hz1, hz2⟩ := info_parts infoSpot
  clear hn
  go_enter Try.func9, Try.ntmps9
  go_upto_region 3 with (first | (go_at_call 40; refine (HRo.out).mono ?_; rintro e w1 ⟨v, ev, rfl, hRA⟩) | (go_at_call 19; refine ((HWh _ _ _).out).mono ?_; rintro e w7 ⟨rfl, hw7⟩; subst hw7) | (go_at_call 17; refine ((HS2 _ _ _ _ (Rd.new (by first | rfl | simp) (by first | rfl | simp))).out).mono ?_; rintro e w8 ⟨rfl, hw8⟩; subst hw8))
  rw [rn_form]
  generalize (if n = 0 then (10 : Int) else 0) = z1 at *
  generalize (if (200 : Int) < (n : Int) then (4 : Int) else 0) = z2 at *
  have hx2 := hRA.1.alloc (.cells #[.int .i64 z1, .int .i64 z2] 33)
  have HRA := hidA (show (rndE l t ≠ 0 ∧ v = .slice none 0 0 ∧ ev = rndE l t ∨ rndE l t = 0 ∧ ev = 0 ∧ OwnSp (w1.alloc (.cells #[.int .i64 z1, .int .i64 z2] 33)) w.heap.size v (cutN (spP l) t.toNat)) from by
    rcases hRA.2 with h | ⟨h1, h2, h3⟩
    · exact .inl h
    · exact .inr ⟨h1, h2, h3.ext ((Ext.refl w1).alloc _)⟩)
  clear HRo hRA
  generalize w1.alloc (.cells #[.int .i64 z1, .int .i64 z2] 33) = w2 at *
  generalize rnA n = a0 at *
  go_upto_region 5 with fail
  go_loopw [7, 8, 32] (fun s7 s8 s32 wr => ∃ (k : Nat) (wv : Int), k ≤ n ∧ s32 = .int .i64 k ∧ s7 = .int .i64 wv ∧ firstE [wv, tlE l t k] = rndE l t ∧ OwnSp wr w2.heap.size s8 (tkP l k) ∧ Ext w2 wr) (fun _ _ s32 _ => n - (intOf s32).toNat)
  case atStart => exact ⟨0, a0, Nat.zero_le _, rfl, rfl, Hini.out, World.ownsRow_nil _ _ _ _, Ext.refl _⟩
  case round =>
    obtain ⟨k, wv, hk, rfl, rfl, hwv, hO, hxk⟩ := hrel
    have hx := hx2.trans hxk
    have Hwv := hidA hwv
    clear hwv
    by_cases hkn : k < n
    · have Hkn := hidA hkn
      have hkl : k < l.length := by have := Hn.out; omega
      obtain ⟨ad, rfl, hbk, d0, d1⟩ := pt_at (hV.ext hx) hkl
      have i0 : (0 : Int) ≤ k := by omega
      have i1 : (k : Int) < n := by omega
      have Hfar := hidA (fun (h : farP (l.getD k (0, 0)) = true) => (tl_far (t := t) (a := wv) hkl h).trans Hwv.out)
      have Hnear := hidA (fun (h : farP (l.getD k (0, 0)) = false) => (tl_near (t := t) (a := wv) hkl h).trans Hwv.out)
      obtain ⟨px, py, hpp⟩ : ∃ px py, l.getD k (0, 0) = (px, py) := ⟨_, _, rfl⟩
      rw [hpp] at d0 d1 Hfar Hnear
      dsimp only at d0 d1
      have Hfw := hidA (far_w2 px py)
      have Hnx := hidA (show tkP l (k + 1) = tkP l k ++ [(floatOfInt .f32 px, floatOfInt .f32 py)] from by rw [tkP_next hkl, hpp])
      have Hxl := hidA (show (tkP l k).length ≤ k from tkP_le l k)
      clear hpp hkl
      go_upto_region 7 with fail
      have kP : Bk (wr.alloc (.cells #[.int .i64 px, .int .i64 py] 32)) wr.heap.size 32 #[.int .i64 px, .int .i64 py] := Bk.new' rfl
      have hxk1 := hxk.alloc (.cells #[.int .i64 px, .int .i64 py] 32)
      have hO1 := hO.ext ((Ext.refl wr).alloc (.cells #[.int .i64 px, .int .i64 py] 32))
      clear d0 d1 hx hxk hO
      generalize wr.alloc (.cells #[.int .i64 px, .int .i64 py] 32) = w1 at *
      generalize wr.heap.size = ha at *
      have p0 := kP.cell 0
      have p1 := kP.cell 1
      cases bx1 : (decide (-4194304 ≤ px) && decide (px ≤ 4194304))
      · have Hw2 := hidA (show firstE [firstE [wv, 5], tlE l t (k + 1)] = rndE l t from Hfar.out (by rw [Hfw.out, bx1]; rfl))
        go_upto_region 8 with (first | (go_at_call 35; refine ((HWi _ _ _ _).out).mono ?_; rintro e w7 ⟨rfl, hw7⟩; subst hw7) | (go_at_call 19; refine ((HWt _ _).out).mono ?_; rintro e w7 ⟨rfl, hw7⟩; subst hw7) | (go_at_call 17; refine ((HS2 _ _ _ _ (Rd.new (by first | rfl | simp) (by first | rfl | simp))).out).mono ?_; rintro e w8 ⟨rfl, hw8⟩; subst hw8))
        have hx3 := (Ext.refl w1).alloc (.cells #[.int .i64 wv, .int .i64 5] 33)
        have kP3 := kP.ext hx3
        have hO3 := hO1.ext hx3
        have hxk3 := hxk1.trans hx3
        clear p0 p1 kP hO1 hxk1 hx3
        generalize w1.alloc (.cells #[.int .i64 wv, .int .i64 5] 33) = w3 at *
        generalize firstE [wv, 5] = wq at *
        have p0 := kP3.cell 0
        have p1 := kP3.cell 1
        have hxn : Ext w3 (w3.alloc (.cells #[.float .f32 (floatOfInt .f32 px), .float .f32 (floatOfInt .f32 py)] 79)) := (Ext.refl w3).alloc _
        have hownN := hidA (hO3.ext hxn)
        have hnewN : Hid (∀ j u, ([.float .f32 (floatOfInt .f32 px), .float .f32 (floatOfInt .f32 py)] : List Value)[j]? = some u → (w3.alloc (.cells #[.float .f32 (floatOfInt .f32 px), .float .f32 (floatOfInt .f32 py)] 79)).cell? ((⟨w3.heap.size, 0, none⟩ : Addr).add j) = some u) := World.news_of_block (cs := #[.float .f32 (floatOfInt .f32 px), .float .f32 (floatOfInt .f32 py)]) (t := 79) (fr := (0, 0)) (heap_alloc_new w3 _)
        have honeN : Hid (∀ u ∈ ([.float .f32 (floatOfInt .f32 px), .float .f32 (floatOfInt .f32 py)] : List Value), u.oneCell' = true) := by intro u hu; simp at hu; rcases hu with rfl | rfl <;> rfl
        have hsN := hidA (hxk3.trans hxn).size
        have hmxN := hidA (maxb (Nat.le_trans (Nat.le_of_lt Hkn.out) Hnb.out) Hxl.out).1
        have hmbN := hidA (maxb (Nat.le_trans (Nat.le_of_lt Hkn.out) Hnb.out) Hxl.out).2
        have Hxm := hidA (hxk3.trans hxn)
        clear hxn hO3 hxk3
        go_upto_region 9 with (at_builtin; (refine wpList_append_lies _ (by rfl) _ _ 75 (by rfl) w2.heap.size 79 ti (.agg #[.float .f32 0, .float .f32 0]) 2 8 Try.underlying75 hi0 hz0 hz1 hz2 (by rfl) (by decide) _ _ _ (by rfl) hownN.out ⟨w3.heap.size, 0, none⟩ 1 1 [.float .f32 (floatOfInt .f32 px), .float .f32 (floatOfInt .f32 py)] (by rfl) (by rfl) hnewN.out honeN.out (by omega) hmxN.out hmbN.out hsN.out (w3.heap.size + 1) (by simp) ?_; intro gA capA wA hownA hgrowA hatA hltA))
        have hxA : Ext w2 wA := Hxm.out.grown hgrowA (fun b hb => (World.ownsRow.lt hownN.out b hb).1)
        have hOA : OwnSp wA w2.heap.size (.slice (some ⟨gA, 0, none⟩) ((tkP l k).length + 1) capA) (tkP l (k + 1)) := by
          rw [Hnx.out]
          exact OwnSp.push hownA
        clear hownN hnewN honeN hsN Hxm hgrowA hatA hltA hownA hmxN hmbN p0 p1 kP3
        go_wp2
        go_roundw
        case rel => exact ⟨k + 1, wq, Hkn.out, (by first | rfl | go_num), rfl, Hw2.out, hOA, hxA⟩
        case measure => exact nxt_k Hkn.out
      · cases by1 : (decide (-4194304 ≤ py) && decide (py ≤ 4194304))
        · have Hw2 := hidA (show firstE [firstE [wv, 5], tlE l t (k + 1)] = rndE l t from Hfar.out (by rw [Hfw.out, bx1, by1]; rfl))
          go_upto_region 8 with (first | (go_at_call 35; refine ((HWi _ _ _ _).out).mono ?_; rintro e w7 ⟨rfl, hw7⟩; subst hw7) | (go_at_call 19; refine ((HWt _ _).out).mono ?_; rintro e w7 ⟨rfl, hw7⟩; subst hw7) | (go_at_call 17; refine ((HS2 _ _ _ _ (Rd.new (by first | rfl | simp) (by first | rfl | simp))).out).mono ?_; rintro e w8 ⟨rfl, hw8⟩; subst hw8))
          have hx3 := (Ext.refl w1).alloc (.cells #[.int .i64 wv, .int .i64 5] 33)
          have kP3 := kP.ext hx3
          have hO3 := hO1.ext hx3
          have hxk3 := hxk1.trans hx3
          clear p0 p1 kP hO1 hxk1 hx3
          generalize w1.alloc (.cells #[.int .i64 wv, .int .i64 5] 33) = w3 at *
          generalize firstE [wv, 5] = wq at *
          have p0 := kP3.cell 0
          have p1 := kP3.cell 1
          have hxn : Ext w3 (w3.alloc (.cells #[.float .f32 (floatOfInt .f32 px), .float .f32 (floatOfInt .f32 py)] 79)) := (Ext.refl w3).alloc _
          have hownN := hidA (hO3.ext hxn)
          have hnewN : Hid (∀ j u, ([.float .f32 (floatOfInt .f32 px), .float .f32 (floatOfInt .f32 py)] : List Value)[j]? = some u → (w3.alloc (.cells #[.float .f32 (floatOfInt .f32 px), .float .f32 (floatOfInt .f32 py)] 79)).cell? ((⟨w3.heap.size, 0, none⟩ : Addr).add j) = some u) := World.news_of_block (cs := #[.float .f32 (floatOfInt .f32 px), .float .f32 (floatOfInt .f32 py)]) (t := 79) (fr := (0, 0)) (heap_alloc_new w3 _)
          have honeN : Hid (∀ u ∈ ([.float .f32 (floatOfInt .f32 px), .float .f32 (floatOfInt .f32 py)] : List Value), u.oneCell' = true) := by intro u hu; simp at hu; rcases hu with rfl | rfl <;> rfl
          have hsN := hidA (hxk3.trans hxn).size
          have hmxN := hidA (maxb (Nat.le_trans (Nat.le_of_lt Hkn.out) Hnb.out) Hxl.out).1
          have hmbN := hidA (maxb (Nat.le_trans (Nat.le_of_lt Hkn.out) Hnb.out) Hxl.out).2
          have Hxm := hidA (hxk3.trans hxn)
          clear hxn hO3 hxk3
          go_upto_region 9 with (at_builtin; (refine wpList_append_lies _ (by rfl) _ _ 75 (by rfl) w2.heap.size 79 ti (.agg #[.float .f32 0, .float .f32 0]) 2 8 Try.underlying75 hi0 hz0 hz1 hz2 (by rfl) (by decide) _ _ _ (by rfl) hownN.out ⟨w3.heap.size, 0, none⟩ 1 1 [.float .f32 (floatOfInt .f32 px), .float .f32 (floatOfInt .f32 py)] (by rfl) (by rfl) hnewN.out honeN.out (by omega) hmxN.out hmbN.out hsN.out (w3.heap.size + 1) (by simp) ?_; intro gA capA wA hownA hgrowA hatA hltA))
          have hxA : Ext w2 wA := Hxm.out.grown hgrowA (fun b hb => (World.ownsRow.lt hownN.out b hb).1)
          have hOA : OwnSp wA w2.heap.size (.slice (some ⟨gA, 0, none⟩) ((tkP l k).length + 1) capA) (tkP l (k + 1)) := by
            rw [Hnx.out]
            exact OwnSp.push hownA
          clear hownN hnewN honeN hsN Hxm hgrowA hatA hltA hownA hmxN hmbN p0 p1 kP3
          go_wp2
          go_roundw
          case rel => exact ⟨k + 1, wq, Hkn.out, (by first | rfl | go_num), rfl, Hw2.out, hOA, hxA⟩
          case measure => exact nxt_k Hkn.out
        · have Hw2 := hidA (show firstE [firstE [wv, 0], tlE l t (k + 1)] = rndE l t from Hnear.out (by rw [Hfw.out, bx1, by1]; rfl))
          go_upto_region 8 with (first | (go_at_call 35; refine ((HWi _ _ _ _).out).mono ?_; rintro e w7 ⟨rfl, hw7⟩; subst hw7) | (go_at_call 19; refine ((HWf _ _).out).mono ?_; rintro e w7 ⟨rfl, hw7⟩; subst hw7) | (go_at_call 17; refine ((HS2 _ _ _ _ (Rd.new (by first | rfl | simp) (by first | rfl | simp))).out).mono ?_; rintro e w8 ⟨rfl, hw8⟩; subst hw8))
          have hx3 := (Ext.refl w1).alloc (.cells #[.int .i64 wv, .int .i64 0] 33)
          have kP3 := kP.ext hx3
          have hO3 := hO1.ext hx3
          have hxk3 := hxk1.trans hx3
          clear p0 p1 kP hO1 hxk1 hx3
          generalize w1.alloc (.cells #[.int .i64 wv, .int .i64 0] 33) = w3 at *
          generalize firstE [wv, 0] = wq at *
          have p0 := kP3.cell 0
          have p1 := kP3.cell 1
          have hxn : Ext w3 (w3.alloc (.cells #[.float .f32 (floatOfInt .f32 px), .float .f32 (floatOfInt .f32 py)] 79)) := (Ext.refl w3).alloc _
          have hownN := hidA (hO3.ext hxn)
          have hnewN : Hid (∀ j u, ([.float .f32 (floatOfInt .f32 px), .float .f32 (floatOfInt .f32 py)] : List Value)[j]? = some u → (w3.alloc (.cells #[.float .f32 (floatOfInt .f32 px), .float .f32 (floatOfInt .f32 py)] 79)).cell? ((⟨w3.heap.size, 0, none⟩ : Addr).add j) = some u) := World.news_of_block (cs := #[.float .f32 (floatOfInt .f32 px), .float .f32 (floatOfInt .f32 py)]) (t := 79) (fr := (0, 0)) (heap_alloc_new w3 _)
          have honeN : Hid (∀ u ∈ ([.float .f32 (floatOfInt .f32 px), .float .f32 (floatOfInt .f32 py)] : List Value), u.oneCell' = true) := by intro u hu; simp at hu; rcases hu with rfl | rfl <;> rfl
          have hsN := hidA (hxk3.trans hxn).size
          have hmxN := hidA (maxb (Nat.le_trans (Nat.le_of_lt Hkn.out) Hnb.out) Hxl.out).1
          have hmbN := hidA (maxb (Nat.le_trans (Nat.le_of_lt Hkn.out) Hnb.out) Hxl.out).2
          have Hxm := hidA (hxk3.trans hxn)
          clear hxn hO3 hxk3
          go_upto_region 9 with (at_builtin; (refine wpList_append_lies _ (by rfl) _ _ 75 (by rfl) w2.heap.size 79 ti (.agg #[.float .f32 0, .float .f32 0]) 2 8 Try.underlying75 hi0 hz0 hz1 hz2 (by rfl) (by decide) _ _ _ (by rfl) hownN.out ⟨w3.heap.size, 0, none⟩ 1 1 [.float .f32 (floatOfInt .f32 px), .float .f32 (floatOfInt .f32 py)] (by rfl) (by rfl) hnewN.out honeN.out (by omega) hmxN.out hmbN.out hsN.out (w3.heap.size + 1) (by simp) ?_; intro gA capA wA hownA hgrowA hatA hltA))
          have hxA : Ext w2 wA := Hxm.out.grown hgrowA (fun b hb => (World.ownsRow.lt hownN.out b hb).1)
          have hOA : OwnSp wA w2.heap.size (.slice (some ⟨gA, 0, none⟩) ((tkP l k).length + 1) capA) (tkP l (k + 1)) := by
            rw [Hnx.out]
            exact OwnSp.push hownA
          clear hownN hnewN honeN hsN Hxm hgrowA hatA hltA hownA hmxN hmbN p0 p1 kP3
          go_wp2
          go_roundw
          case rel => exact ⟨k + 1, wq, Hkn.out, (by first | rfl | go_num), rfl, Hw2.out, hOA, hxA⟩
          case measure => exact nxt_k Hkn.out
    · obtain rfl : n = k := by omega
      clear hk hkn
      rw [show n = l.length from Hn.out.symm, tkP_all] at hO
      have Hw3 := hidA (show firstE [wv, rnB t] = rndE l t from by rw [← Hend.out]; exact Hwv.out)
      have HO := hidA hO
      clear hO Hwv Hend Hini
      by_cases hE : rndE l t = 0
      · obtain ⟨hev, hOv⟩ : ev = 0 ∧ OwnSp w2 w.heap.size v (cutN (spP l) t.toNat) := by
          rcases HRA.out with ⟨h, _⟩ | ⟨_, h1, h2⟩
          · exact absurd hE h
          · exact ⟨h1, h2⟩
        subst hev
        obtain ⟨hz1, hz2, hz3, hz4, hz5⟩ := Hzero.out hE
        obtain ⟨tn, rfl⟩ : ∃ tn : Nat, t = tn := ⟨t.toNat, by omega⟩
        rw [Int.toNat_natCast] at hOv
        have Ht := hidA (show tn ≤ 6 by omega)
        have bt : (decide ((0 : Int) ≤ tn) && decide ((tn : Int) ≤ 6)) = true := by simp; omega
        have hw0 : firstE [wv, 0] = 0 := by have h := Hw3.out; rw [hE, Hbw.out, if_pos bt] at h; exact h
        have HSz := fun (B : Option Addr) (w : World) (h : Rd w B [.int .i64 wv, .int .i64 0]) => hidA (show Calls Try.prog 17 #[.slice B 2 2] w fun e w' => e = .returned (.int .i64 0) ∧ w = w' from by have h9 := first_any B 2 2 [wv, 0] w rfl h (by omega); rw [hw0] at h9; exact h9)
        have Hbd := hidA (fun m (h : m ≤ tn) => cutN_bd (spP_bd hz3) m (Nat.le_trans h Ht.out))
        have Hle := hidA (fun m (h : m ≤ tn) => cutN_le (l := spP l) (by rw [spP_length]; exact hz2) m (Nat.le_trans h Ht.out))
        have Hone := hidA (fun m (h : (cutN (spP l) m).length ≤ 1) (h2 : m ≤ tn) => cutN_one h tn h2)
        have Hpos := hidA hz1
        have HOv := hidA hOv
        have HW6 := fun (w : World) => hidA (show Calls Try.prog 35 #[.int .i64 (tn : Int), .int .i64 0, .int .i64 6] w fun e w' => e = .returned (.bool true) ∧ w = w' from by have h9 := within_any (tn : Int) 0 6 w; rw [bt] at h9; exact h9)
        clear hE Hw3 HRA Hzero hz1 hz2 hz3 hz4 hz5 hw0 hOv HWh HS2 Hbw Hnb HWi HWt bt
        go_upto_region 15 with (first | (go_at_call 35; refine ((HW6 _).out).mono ?_; rintro e w7 ⟨rfl, hw7⟩; subst hw7) | (go_at_call 19; refine ((HWf _ _).out).mono ?_; rintro e w7 ⟨rfl, hw7⟩; subst hw7) | (go_at_call 17; refine ((HSz _ _ (Rd.new (by first | rfl | simp) (by first | rfl | simp))).out).mono ?_; rintro e w8 ⟨rfl, hw8⟩; subst hw8) | (go_at_call 15; refine ((HL _).out).mono ?_; rintro e w9 ⟨rfl, hx9⟩))
        have hxS : Ext wr w9 := (by repeat (first | exact Ext.refl _ | assumption | refine Ext.setCell ?_ (by first | (simp; done) | (simp; omega)) _ | refine Ext.drewN ?_ _ | refine Ext.alloc ?_ _ | refine Ext.drew ?_ | refine Ext.trans ?_ (by assumption)))
        have hOS := HO.out.ext hxS
        have hxT := hxk.trans hxS
        clear HSz HWf HW6 HL hx9 hxS hxk hx HO
        go_loopw [8, 86] (fun s8 s86 wz => ∃ m : Nat, m ≤ tn ∧ s86 = .int .i64 m ∧ OwnSp wz w2.heap.size s8 (cutN (spP l) m) ∧ Ext w2 wz) (fun _ s86 _ => tn - (intOf s86).toNat)
        case atStart => exact ⟨0, Nat.zero_le _, rfl, hOS, hxT⟩
        case round =>
          clear hOS hxT
          obtain ⟨m, hm, rfl, hO, hx⟩ := hrel
          by_cases hmt : m < tn
          · have Hmt := hidA hmt
            have Hxn := hidA (show cutO (cutN (spP l) m) = cutN (spP l) (m + 1) from rfl)
            have Hxb := hidA (Hbd.out m hm)
            have Hxe := hidA (Hle.out m hm)
            have Hx1 := hidA (fun h => Hone.out m h hm)
            have hK : 24 + 5 * m ≤ 100 := by have := Ht.out; omega
            obtain ⟨xs, hxs⟩ : ∃ xs, xs = cutN (spP l) m := ⟨_, rfl⟩
            rw [← hxs] at hO Hxn Hxb Hxe Hx1
            by_cases hxp : xs.length = 0
            · exfalso
              exact cutN_ne (by rw [spP_length]; exact Hpos.out) m (by rw [← hxs]; exact hxp)
            · obtain ⟨adP, cap, rfl, hbP, hcap, hRd⟩ := hO.form (by omega)
              have HO := hidA hO
              have HRd := hidA hRd
              by_cases hx1 : xs.length < 2
              · have hb1 : decide ((xs.length : Int) < 2) = true := by simp; omega
                have hb2 : (xs.length : Int) < 2 := by omega
                have Hfin := hidA (Hx1.out (by omega))
                obtain ⟨B1, c1, rfl, hr1⟩ := (HOv.out.ext hx).any
                rw [Hfin.out] at hr1 ⊢
                have HEq := hidA (eqSp_same B1 (some adP) _ c1 cap xs wr rfl hr1 HRd.out (by omega))
                have Hend := hidA (hx2.trans hx)
                clear hxs hO hRd hm hmt hr1 hx
                go_wp2_with (go_at_call 42; refine HEq.out.mono ?_; rintro e w9 ⟨rfl, hx9⟩)
                go_ret
                exact ⟨rfl, Hend.out.trans hx9⟩
              · have hq2 : 2 ≤ xs.length := by omega
                have Hq := hidA (show 2 ≤ xs.length ∧ xs.length ≤ 12800 from ⟨hq2, Hxe.out⟩)
                have Hcut := hidA (cutO_ne hq2)
                obtain ⟨ad0, e0, _, z0, z1'⟩ := sp_at hRd (k := 0) (by omega)
                injection e0 with e0
                subst e0
                rw [Nat.zero_mul, show adP.add 0 = adP from rfl] at z0 z1'
                obtain ⟨x0, y0, hx0⟩ : ∃ x0 y0, xs.getD 0 (0, 0) = (x0, y0) := ⟨_, _, rfl⟩
                rw [hx0] at z0 z1'
                have Hx0 := hidA hx0
                dsimp only at z0 z1'
                obtain ⟨q, hq⟩ : ∃ q, q = xs.length := ⟨_, rfl⟩
                rw [← hq] at hxp hx1 hcap hq2 Hq HO Hcut Hxe ⊢
                have HQ := hidA hq
                have b1 : decide ((q : Int) < 2) = false := by simp; omega
                have b2 : ¬ (q : Int) < 2 := by omega
                have b3 : (0 : Int) < q := by omega
                have hq6 : q ≤ 12800 := Hq.out.2
                obtain ⟨wo, rfl⟩ : ∃ wo, wo = wr := ⟨_, rfl⟩
                clear hx0 hq hxs hxp hx1 hq2 hcap hRd hO hm
                go_upto_region 18 with fail
                have hON : OwnSp (wo.alloc (.cells #[.float .f32 x0, .float .f32 y0] 79)) wo.heap.size (.slice (some ⟨wo.heap.size, 0, none⟩) 1 1) ([(x0, y0)] ++ cutL xs 0) :=
                  by
                    rw [show [(x0, y0)] ++ cutL xs 0 = [(x0, y0)] from rfl]
                    exact ⟨rfl, .inr ⟨wo.heap.size, 1, _, rfl, Nat.le_refl _, Bk.new' rfl, by simp, by unfold maxLen; simp, by simp, by simp [spv]⟩⟩
                have hxo : Ext wo (wo.alloc (.cells #[.float .f32 x0, .float .f32 y0] 79)) := (Ext.refl wo).alloc _
                have hq1 : 0 + 1 ≤ q := by have := Hq.out; omega
                clear z0 z1' b1 b2 b3 hmt
                generalize hwn : wo.alloc (.cells #[.float .f32 x0, .float .f32 y0] 79) = wn at *
                clear hwn
                go_upto_region 19 with fail
                go_loopw [12, 13] (fun s12 s13 wz => ∃ i : Nat, i + 1 ≤ q ∧ s13 = .int .i64 ((i + 1 : Nat) : Int) ∧ OwnSp wz wo.heap.size s12 ([(x0, y0)] ++ cutL xs i) ∧ Ext wo wz) (fun _ s13 _ => q - (intOf s13).toNat)
                case atStart => exact ⟨0, hq1, rfl, hON, hxo⟩
                case round =>
                  clear hON hxo hq1
                  obtain ⟨i, hi, rfl, hO, hxi⟩ := hrel
                  by_cases hin : i + 1 < q
                  · have Hin := hidA hin
                    obtain ⟨ad1, e1, hb1, c0, c1⟩ := sp_at (HRd.out.ext hxi) (k := i) (by have := HQ.out; omega)
                    injection e1 with e1
                    subst e1
                    obtain ⟨ad2, e2, hb2, d0, d1⟩ := sp_at (HRd.out.ext hxi) (k := i + 1) (by have := HQ.out; omega)
                    injection e2 with e2
                    subst e2
                    have hB1 := Hxb.out.get i
                    have hB2 := Hxb.out.get (i + 1)
                    have Hnx := hidA (show cutL xs (i + 1) = cutL xs i ++ [mixP (xs.getD i (0, 0)) (xs.getD (i + 1) (0, 0)) 1048576000, mixP (xs.getD i (0, 0)) (xs.getD (i + 1) (0, 0)) 1061158912] from rfl)
                    obtain ⟨ax, ay, hpp⟩ : ∃ ax ay, xs.getD i (0, 0) = (ax, ay) := ⟨_, _, rfl⟩
                    obtain ⟨bx, by_, hqq⟩ : ∃ bx by_, xs.getD (i + 1) (0, 0) = (bx, by_) := ⟨_, _, rfl⟩
                    rw [hpp] at c0 c1 hB1 Hnx
                    rw [hqq] at d0 d1 hB2 Hnx
                    dsimp only at c0 c1 d0 d1 hB1 hB2
                    unfold mixP at Hnx
                    dsimp only at Hnx
                    have HM1 := fun (w : World) => hidA (lmix_any w hB1.1 hB1.2 hB2.1 hB2.2 quart_bd.1 hK)
                    have HM2 := fun (w : World) => hidA (lmix_any w hB1.1 hB1.2 hB2.1 hB2.2 quart_bd.2 hK)
                    generalize mixB ax bx 1048576000 = m1 at *
                    generalize mixB ay by_ 1048576000 = m2 at *
                    generalize mixB ax bx 1061158912 = m3 at *
                    generalize mixB ay by_ 1061158912 = m4 at *
                    have i0 : (0 : Int) ≤ i := by omega
                    have i1 : (i : Int) < q := by omega
                    have i2 : (0 : Int) ≤ (i : Int) + 1 := by omega
                    have i3 : (i : Int) + 1 < q := by omega
                    have i4 : IntKind.i64.wrap (i : Int) = (i : Int) := IntWalk.i64_in _ (by have := Hq.out; omega)
                    have Hxl := hidA (show ([(x0, y0)] ++ cutL xs i).length ≤ 51200 from by rw [List.length_append, cutL_length]; have := Hq.out; have h1 : [(x0, y0)].length = 1 := rfl; omega)
                    have KO : ∀ w', Ext wo w' → (fun w' => w'.cell? (adP.add (i * 2)) = some (.float .f32 ax) ∧ w'.cell? ⟨(adP.add (i * 2)).block, (adP.add (i * 2)).off + 1, none⟩ = some (.float .f32 ay) ∧ w'.cell? (adP.add ((i + 1) * 2)) = some (.float .f32 bx) ∧ w'.cell? ⟨(adP.add ((i + 1) * 2)).block, (adP.add ((i + 1) * 2)).off + 1, none⟩ = some (.float .f32 by_)) w' := fun w' h => by
                      obtain ⟨a1, e1, _, f0, f1⟩ := sp_at (HRd.out.ext h) (k := i) (by have := HQ.out; have := Hin.out; omega)
                      injection e1 with e1
                      subst e1
                      obtain ⟨a2, e2, _, g0, g1⟩ := sp_at (HRd.out.ext h) (k := i + 1) (by have := HQ.out; have := Hin.out; omega)
                      injection e2 with e2
                      subst e2
                      rw [hpp] at f0 f1
                      rw [hqq] at g0 g1
                      exact ⟨f0, f1, g0, g1⟩
                    have KS : ∀ w', Ext wr w' → (fun w' => w'.cell? (adP.add (i * 2)) = some (.float .f32 ax) ∧ w'.cell? ⟨(adP.add (i * 2)).block, (adP.add (i * 2)).off + 1, none⟩ = some (.float .f32 ay) ∧ w'.cell? (adP.add ((i + 1) * 2)) = some (.float .f32 bx) ∧ w'.cell? ⟨(adP.add ((i + 1) * 2)).block, (adP.add ((i + 1) * 2)).off + 1, none⟩ = some (.float .f32 by_)) w' := fun w' h => KO w' (hxi.trans h)
                    have hone : Hid (∀ u ∈ ([.float .f32 m1, .float .f32 m2, .float .f32 m3, .float .f32 m4] : List Value), u.oneCell' = true) := by intro u hu; simp at hu; rcases hu with rfl | rfl | rfl | rfl <;> rfl
                    have hmx2 := hidA (maxl (b := 2) Hxl.out (by omega)).1
                    have hmb := hidA (maxl (b := 2) Hxl.out (by omega)).2
                    clear hpp hqq hB1 hB2 hin hi hb1 hb2 c0 c1 d0 d1
                    go_upto_region 21 with fail
                    refine wp_region_noPanic ?_
                    refine wp_region_held_drew (S := fun w' => w'.cell? (adP.add (i * 2)) = some (.float .f32 ax) ∧ w'.cell? ⟨(adP.add (i * 2)).block, (adP.add (i * 2)).off + 1, none⟩ = some (.float .f32 ay) ∧ w'.cell? (adP.add ((i + 1) * 2)) = some (.float .f32 bx) ∧ w'.cell? ⟨(adP.add ((i + 1) * 2)).block, (adP.add ((i + 1) * 2)).off + 1, none⟩ = some (.float .f32 by_)) (by kernel_rfl) ?_ (fun hHeld => ?_)
                    · (first | exact hS9 | exact KS _ (by repeat (first | exact Ext.refl _ | assumption | refine Ext.setCell ?_ (by first | (simp; done) | (simp; omega)) _ | refine Ext.drewN ?_ _ | refine Ext.alloc ?_ _ | refine Ext.drew ?_ | refine Ext.trans ?_ (by assumption))))
                    refine wpAnyH_take (i := 0) (oi := ?o1x0) (v := ?v1x0) ?hi1x0 (by kernel_rfl) ?hf1x0 ?hr1x0 (fun _ _ _ h => h) ?hy1x0 (by assumption) ?rest1x0
                    case hi1x0 => (simp only [List.getElem?_toArray, List.getElem?_cons_zero]; exact rfl)
                    case hf1x0 => kernel_rfl
                    case hr1x0 => kernel_rfl
                    case hy1x0 => (refine Or.inl ⟨by rfl, ?_⟩; intro w hSw; (try dsimp only at hSw); go_simp; try with_reducible rfl)
                    simp only [put_mk, List.set_cons_succ, List.set_cons_zero]
                    refine wpAnyH_take (i := 1) (oi := ?o1x1) (v := ?v1x1) ?hi1x1 (by kernel_rfl) ?hf1x1 ?hr1x1 (fun _ _ _ h => h) ?hy1x1 (by assumption) ?rest1x1
                    case hi1x1 => (simp only [List.getElem?_toArray, List.getElem?_cons_succ, List.getElem?_cons_zero]; exact rfl)
                    case hf1x1 => kernel_rfl
                    case hr1x1 => kernel_rfl
                    case hy1x1 => (refine Or.inl ⟨by rfl, ?_⟩; intro w hSw; (try dsimp only at hSw); go_simp; try with_reducible rfl)
                    simp only [put_mk, List.set_cons_succ, List.set_cons_zero]
                    refine wpAnyH_take (i := 2) (oi := ?o1x2) (v := ?v1x2) ?hi1x2 (by kernel_rfl) ?hf1x2 ?hr1x2 (fun _ _ _ h => h) ?hy1x2 (by assumption) ?rest1x2
                    case hi1x2 => (simp only [List.getElem?_toArray, List.getElem?_cons_succ, List.getElem?_cons_zero]; exact rfl)
                    case hf1x2 => kernel_rfl
                    case hr1x2 => kernel_rfl
                    case hy1x2 => (refine Or.inl ⟨by rfl, ?_⟩; intro w hSw; (try dsimp only at hSw); go_simp; try with_reducible rfl)
                    simp only [put_mk, List.set_cons_succ, List.set_cons_zero]
                    refine wpAnyH_take (i := 3) (oi := ?o1x3) (v := ?v1x3) ?hi1x3 (by kernel_rfl) ?hf1x3 ?hr1x3 (fun _ _ _ h => h) ?hy1x3 (by assumption) ?rest1x3
                    case hi1x3 => (simp only [List.getElem?_toArray, List.getElem?_cons_succ, List.getElem?_cons_zero]; exact rfl)
                    case hf1x3 => kernel_rfl
                    case hr1x3 => kernel_rfl
                    case hy1x3 => (refine Or.inl ⟨by rfl, ?_⟩; intro w hSw; (try dsimp only at hSw); go_simp; try with_reducible rfl)
                    simp only [put_mk, List.set_cons_succ, List.set_cons_zero]
                    refine wpAnyH_take (i := 4) (oi := ?o1x4) (v := ?v1x4) ?hi1x4 (by kernel_rfl) ?hf1x4 ?hr1x4 (fun _ _ _ h => h) ?hy1x4 (by assumption) ?rest1x4
                    case hi1x4 => (simp only [List.getElem?_toArray, List.getElem?_cons_succ, List.getElem?_cons_zero]; exact rfl)
                    case hf1x4 => kernel_rfl
                    case hr1x4 => kernel_rfl
                    case hy1x4 => (refine Or.inl ⟨by rfl, ?_⟩; intro w hSw; (try dsimp only at hSw); go_simp; try with_reducible rfl)
                    simp only [put_mk, List.set_cons_succ, List.set_cons_zero]
                    refine wpAnyH_take (i := 5) (oi := ?o1x5) (v := ?v1x5) ?hi1x5 (by kernel_rfl) ?hf1x5 ?hr1x5 (fun _ _ _ h => h) ?hy1x5 (by assumption) ?rest1x5
                    case hi1x5 => (simp only [List.getElem?_toArray, List.getElem?_cons_succ, List.getElem?_cons_zero]; exact rfl)
                    case hf1x5 => kernel_rfl
                    case hr1x5 => kernel_rfl
                    case hy1x5 => (refine Or.inl ⟨by rfl, ?_⟩; intro w hSw; (try dsimp only at hSw); go_simp; try with_reducible rfl)
                    simp only [put_mk, List.set_cons_succ, List.set_cons_zero]
                    refine wpAnyH_take (i := 6) (oi := ?o1x6) (v := ?v1x6) ?hi1x6 (by kernel_rfl) ?hf1x6 ?hr1x6 (fun _ _ _ h => h) ?hy1x6 (by assumption) ?rest1x6
                    case hi1x6 => (simp only [List.getElem?_toArray, List.getElem?_cons_succ, List.getElem?_cons_zero]; exact rfl)
                    case hf1x6 => kernel_rfl
                    case hr1x6 => kernel_rfl
                    case hy1x6 => (refine Or.inl ⟨by rfl, ?_⟩; intro w hSw; (try dsimp only at hSw); go_simp; try with_reducible rfl)
                    simp only [put_mk, List.set_cons_succ, List.set_cons_zero]
                    refine wpAnyH_take (i := 7) (oi := ?o1x7) (v := ?v1x7) ?hi1x7 (by kernel_rfl) ?hf1x7 ?hr1x7 (fun _ _ _ h => h) ?hy1x7 (by assumption) ?rest1x7
                    case hi1x7 => (simp only [List.getElem?_toArray, List.getElem?_cons_succ, List.getElem?_cons_zero]; exact rfl)
                    case hf1x7 => kernel_rfl
                    case hr1x7 => kernel_rfl
                    case hy1x7 => (refine Or.inl ⟨by rfl, ?_⟩; intro w hSw; (try dsimp only at hSw); go_simp; try with_reducible rfl)
                    simp only [put_mk, List.set_cons_succ, List.set_cons_zero]
                    refine wpAnyH_take (i := 8) (oi := ?o1x8) (v := ?v1x8) ?hi1x8 (by kernel_rfl) ?hf1x8 ?hr1x8 (fun _ _ _ h => h) ?hy1x8 (by assumption) ?rest1x8
                    case hi1x8 => (simp only [List.getElem?_toArray, List.getElem?_cons_succ, List.getElem?_cons_zero]; exact rfl)
                    case hf1x8 => kernel_rfl
                    case hr1x8 => kernel_rfl
                    case hy1x8 => (refine Or.inl ⟨by rfl, ?_⟩; intro w hSw; (try dsimp only at hSw); go_simp; try with_reducible rfl)
                    simp only [put_mk, List.set_cons_succ, List.set_cons_zero]
                    refine wpAnyH_take (i := 9) (oi := ?o1x9) (v := ?v1x9) ?hi1x9 (by kernel_rfl) ?hf1x9 ?hr1x9 (fun _ _ _ h => h) ?hy1x9 (by assumption) ?rest1x9
                    case hi1x9 => (simp only [List.getElem?_toArray, List.getElem?_cons_succ, List.getElem?_cons_zero]; exact rfl)
                    case hf1x9 => kernel_rfl
                    case hr1x9 => kernel_rfl
                    case hy1x9 => (refine Or.inl ⟨by rfl, ?_⟩; intro w hSw; (try dsimp only at hSw); go_simp; try with_reducible rfl)
                    simp only [put_mk, List.set_cons_succ, List.set_cons_zero]
                    refine wpAnyH_take (i := 10) (oi := ?o1x10) (v := ?v1x10) ?hi1x10 (by kernel_rfl) ?hf1x10 ?hr1x10 (fun _ _ _ h => h) ?hy1x10 (by assumption) ?rest1x10
                    case hi1x10 => (simp only [List.getElem?_toArray, List.getElem?_cons_succ, List.getElem?_cons_zero]; exact rfl)
                    case hf1x10 => kernel_rfl
                    case hr1x10 => kernel_rfl
                    case hy1x10 => (refine Or.inl ⟨by rfl, ?_⟩; intro w hSw; (try dsimp only at hSw); go_simp; try with_reducible rfl)
                    simp only [put_mk, List.set_cons_succ, List.set_cons_zero]
                    refine wpAnyH_take (i := 12) (oi := ?o1x12) (v := ?v1x12) ?hi1x12 (by kernel_rfl) ?hf1x12 ?hr1x12 (fun _ _ _ h => h) ?hy1x12 (by assumption) ?rest1x12
                    case hi1x12 => (simp only [List.getElem?_toArray, List.getElem?_cons_succ, List.getElem?_cons_zero]; exact rfl)
                    case hf1x12 => kernel_rfl
                    case hr1x12 => kernel_rfl
                    case hy1x12 => (refine Or.inl ⟨by rfl, ?_⟩; intro w hSw; (try dsimp only at hSw); go_simp; try with_reducible rfl)
                    simp only [put_mk, List.set_cons_succ, List.set_cons_zero]
                    refine wpAnyH_take (i := 13) (oi := ?o1x13) (v := ?v1x13) ?hi1x13 (by kernel_rfl) ?hf1x13 ?hr1x13 (fun _ _ _ h => h) ?hy1x13 (by assumption) ?rest1x13
                    case hi1x13 => (simp only [List.getElem?_toArray, List.getElem?_cons_succ, List.getElem?_cons_zero]; exact rfl)
                    case hf1x13 => kernel_rfl
                    case hr1x13 => kernel_rfl
                    case hy1x13 => (refine Or.inl ⟨by rfl, ?_⟩; intro w hSw; (try dsimp only at hSw); go_simp; try with_reducible rfl)
                    simp only [put_mk, List.set_cons_succ, List.set_cons_zero]
                    refine wpAnyH_take (i := 14) (oi := ?o1x14) (v := ?v1x14) ?hi1x14 (by kernel_rfl) ?hf1x14 ?hr1x14 (fun _ _ _ h => h) ?hy1x14 (by assumption) ?rest1x14
                    case hi1x14 => (simp only [List.getElem?_toArray, List.getElem?_cons_succ, List.getElem?_cons_zero]; exact rfl)
                    case hf1x14 => kernel_rfl
                    case hr1x14 => kernel_rfl
                    case hy1x14 => (refine Or.inl ⟨by rfl, ?_⟩; intro w hSw; (try dsimp only at hSw); go_simp; try with_reducible rfl)
                    simp only [put_mk, List.set_cons_succ, List.set_cons_zero]
                    refine wpAnyH_take (i := 15) (oi := ?o1x15) (v := ?v1x15) ?hi1x15 (by kernel_rfl) ?hf1x15 ?hr1x15 (fun _ _ _ h => h) ?hy1x15 (by assumption) ?rest1x15
                    case hi1x15 => (simp only [List.getElem?_toArray, List.getElem?_cons_succ, List.getElem?_cons_zero]; exact rfl)
                    case hf1x15 => kernel_rfl
                    case hr1x15 => kernel_rfl
                    case hy1x15 => (refine Or.inl ⟨by rfl, ?_⟩; intro w hSw; (try dsimp only at hSw); go_simp; try with_reducible rfl)
                    simp only [put_mk, List.set_cons_succ, List.set_cons_zero]
                    refine wpAnyH_take (i := 16) (oi := ?o1x16) (v := ?v1x16) ?hi1x16 (by kernel_rfl) ?hf1x16 ?hr1x16 (fun _ _ _ h => h) ?hy1x16 (by assumption) ?rest1x16
                    case hi1x16 => (simp only [List.getElem?_toArray, List.getElem?_cons_succ, List.getElem?_cons_zero]; exact rfl)
                    case hf1x16 => kernel_rfl
                    case hr1x16 => kernel_rfl
                    case hy1x16 => (refine Or.inl ⟨by rfl, ?_⟩; intro w hSw; (try dsimp only at hSw); go_simp; try with_reducible rfl)
                    simp only [put_mk, List.set_cons_succ, List.set_cons_zero]
                    refine wpAnyH_take (i := 17) (oi := ?o1x17) (v := ?v1x17) ?hi1x17 (by kernel_rfl) ?hf1x17 ?hr1x17 (fun _ _ _ h => h) ?hy1x17 (by assumption) ?rest1x17
                    case hi1x17 => (simp only [List.getElem?_toArray, List.getElem?_cons_succ, List.getElem?_cons_zero]; exact rfl)
                    case hf1x17 => kernel_rfl
                    case hr1x17 => kernel_rfl
                    case hy1x17 => (refine Or.inl ⟨by rfl, ?_⟩; intro w hSw; (try dsimp only at hSw); go_simp; try with_reducible rfl)
                    simp only [put_mk, List.set_cons_succ, List.set_cons_zero]
                    refine wpAnyH_take (i := 18) (oi := ?o1x18) (v := ?v1x18) ?hi1x18 (by kernel_rfl) ?hf1x18 ?hr1x18 (fun _ _ _ h => h) ?hy1x18 (by assumption) ?rest1x18
                    case hi1x18 => (simp only [List.getElem?_toArray, List.getElem?_cons_succ, List.getElem?_cons_zero]; exact rfl)
                    case hf1x18 => kernel_rfl
                    case hr1x18 => kernel_rfl
                    case hy1x18 => (refine Or.inl ⟨by rfl, ?_⟩; intro w hSw; (try dsimp only at hSw); go_simp; try with_reducible rfl)
                    simp only [put_mk, List.set_cons_succ, List.set_cons_zero]
                    refine wpAnyH_take (i := 19) (oi := ?o1x19) (v := ?v1x19) ?hi1x19 (by kernel_rfl) ?hf1x19 ?hr1x19 (fun _ _ _ h => h) ?hy1x19 (by assumption) ?rest1x19
                    case hi1x19 => (simp only [List.getElem?_toArray, List.getElem?_cons_succ, List.getElem?_cons_zero]; exact rfl)
                    case hf1x19 => kernel_rfl
                    case hr1x19 => kernel_rfl
                    case hy1x19 => (refine Or.inl ⟨by rfl, ?_⟩; intro w hSw; (try dsimp only at hSw); go_simp; try with_reducible rfl)
                    simp only [put_mk, List.set_cons_succ, List.set_cons_zero]
                    refine wpAnyH_take (i := 20) (oi := ?o1x20) (v := ?v1x20) ?hi1x20 (by kernel_rfl) ?hf1x20 ?hr1x20 (fun _ _ _ h => h) ?hy1x20 (by assumption) ?rest1x20
                    case hi1x20 => (simp only [List.getElem?_toArray, List.getElem?_cons_succ, List.getElem?_cons_zero]; exact rfl)
                    case hf1x20 => kernel_rfl
                    case hr1x20 => kernel_rfl
                    case hy1x20 => (refine Or.inl ⟨by rfl, ?_⟩; intro w hSw; (try dsimp only at hSw); go_simp; try with_reducible rfl)
                    simp only [put_mk, List.set_cons_succ, List.set_cons_zero]
                    refine wpAnyH_take (i := 21) (oi := ?o1x21) (v := ?v1x21) ?hi1x21 (by kernel_rfl) ?hf1x21 ?hr1x21 (fun _ _ _ h => h) ?hy1x21 (by assumption) ?rest1x21
                    case hi1x21 => (simp only [List.getElem?_toArray, List.getElem?_cons_succ, List.getElem?_cons_zero]; exact rfl)
                    case hf1x21 => kernel_rfl
                    case hr1x21 => kernel_rfl
                    case hy1x21 => (refine Or.inl ⟨by rfl, ?_⟩; intro w hSw; (try dsimp only at hSw); go_simp; try with_reducible rfl)
                    simp only [put_mk, List.set_cons_succ, List.set_cons_zero]
                    refine wpAnyH_ready (rs := [11]) (by kernel_rfl) (by simp) ?_
                    refine AllReadyH.cons (o := ?o1x11) ?hi1x11 (fun K hK => ?_) AllReadyH.nil
                    case hi1x11 => (simp only [List.getElem?_toArray, List.getElem?_cons_succ, List.getElem?_cons_zero]; exact rfl)
                    go_simp
                    go_at_call 41
                    refine ((HM1 _).out).mono ?_
                    rintro e wb ⟨rfl, hxb⟩
                    refine hK.out _ _ ?_ (fun hHeld => ?_)
                    · (first | exact hS9 | exact KS _ (by repeat (first | exact Ext.refl _ | assumption | refine Ext.setCell ?_ (by first | (simp; done) | (simp; omega)) _ | refine Ext.drewN ?_ _ | refine Ext.alloc ?_ _ | refine Ext.drew ?_ | refine Ext.trans ?_ (by assumption))))
                    clear hK K
                    refine wpAnyH_ready (rs := [22]) (by kernel_rfl) (by simp) ?_
                    refine AllReadyH.cons (o := ?o1x22) ?hi1x22 (fun K hK => ?_) AllReadyH.nil
                    case hi1x22 => (simp only [List.getElem?_toArray, List.getElem?_cons_succ, List.getElem?_cons_zero]; exact rfl)
                    go_simp
                    go_at_call 41
                    refine ((HM2 _).out).mono ?_
                    rintro e wc ⟨rfl, hxc⟩
                    have hxrc : Ext wr wc := (by repeat (first | exact Ext.refl _ | assumption | refine Ext.setCell ?_ (by first | (simp; done) | (simp; omega)) _ | refine Ext.drewN ?_ _ | refine Ext.alloc ?_ _ | refine Ext.drew ?_ | refine Ext.trans ?_ (by assumption)))
                    have hxe : Ext wr (wc.alloc (.cells #[.float .f32 m1, .float .f32 m2, .float .f32 m3, .float .f32 m4] 79)) := hxrc.alloc _
                    have hxa := hidA (hxi.trans hxe)
                    have hown2 := hidA (hO.ext hxe)
                    have hnews : Hid (∀ j u, ([.float .f32 m1, .float .f32 m2, .float .f32 m3, .float .f32 m4] : List Value)[j]? = some u → (wc.alloc (.cells #[.float .f32 m1, .float .f32 m2, .float .f32 m3, .float .f32 m4] 79)).cell? ((⟨wc.heap.size, 0, none⟩ : Addr).add j) = some u) := World.news_of_block (cs := #[.float .f32 m1, .float .f32 m2, .float .f32 m3, .float .f32 m4]) (t := 79) (fr := (0, 0)) (heap_alloc_new wc _)
                    have hs9 := hidA (show wo.heap.size ≤ (wc.alloc (.cells #[.float .f32 m1, .float .f32 m2, .float .f32 m3, .float .f32 m4] 79)).heap.size from hxa.out.size)
                    have hsz1 := hidA (show (wc.alloc (.cells #[.float .f32 m1, .float .f32 m2, .float .f32 m3, .float .f32 m4] 79)).heap.size = wc.heap.size + 1 from by rw [World.size_alloc])

                    refine hK.out _ _ ?_ (fun hHeld => ?_)
                    · (first | exact hS9 | exact KS _ (by repeat (first | exact Ext.refl _ | assumption | refine Ext.setCell ?_ (by first | (simp; done) | (simp; omega)) _ | refine Ext.drewN ?_ _ | refine Ext.alloc ?_ _ | refine Ext.drew ?_ | refine Ext.trans ?_ (by assumption))))
                    clear hK K
                    refine wpAnyH_ready (rs := [23]) (by kernel_rfl) (by simp) ?_
                    refine AllReadyH.cons (o := ?o1x23) ?hi1x23 (fun K hK => ?_) AllReadyH.nil
                    case hi1x23 => (simp only [List.getElem?_toArray, List.getElem?_cons_succ, List.getElem?_cons_zero]; exact rfl)
                    go_simp
                    refine hK.out _ _ ?_ (fun hHeld => ?_)
                    · (first | exact hS9 | exact KS _ (by repeat (first | exact Ext.refl _ | assumption | refine Ext.setCell ?_ (by first | (simp; done) | (simp; omega)) _ | refine Ext.drewN ?_ _ | refine Ext.alloc ?_ _ | refine Ext.drew ?_ | refine Ext.trans ?_ (by assumption))))
                    clear hK K
                    refine wpAnyH_ready (rs := [24]) (by kernel_rfl) (by simp) ?_
                    refine AllReadyH.cons (o := ?o1x24) ?hi1x24 (fun K hK => ?_) AllReadyH.nil
                    case hi1x24 => (simp only [List.getElem?_toArray, List.getElem?_cons_succ, List.getElem?_cons_zero]; exact rfl)
                    refine step_append_lies _ (by rfl) (.tmp 101) (.tmp 124) 75 (by rfl) wo.heap.size 79 ti (.agg #[.float .f32 0, .float .f32 0]) 2 8 Try.underlying75 hi0 hz0 hz1 hz2 (by rfl) (by decide) _ _ _ (by rfl) hown2.out ⟨wc.heap.size, 0, none⟩ 2 2 [.float .f32 m1, .float .f32 m2, .float .f32 m3, .float .f32 m4] (by rfl) (by rfl) hnews.out hone.out (by omega) hmx2.out hmb.out hs9.out (wc.heap.size + 1) hsz1.out ?_
                    intro gg cap9 w9 hown9 hgrow9 hat hlt
                    have hx9 : Ext wo w9 := hxa.out.grown hgrow9 (fun b hb => (World.ownsRow.lt hown2.out b hb).1)
                    have hS9 : (fun w' => w'.cell? (adP.add (i * 2)) = some (.float .f32 ax) ∧ w'.cell? ⟨(adP.add (i * 2)).block, (adP.add (i * 2)).off + 1, none⟩ = some (.float .f32 ay) ∧ w'.cell? (adP.add ((i + 1) * 2)) = some (.float .f32 bx) ∧ w'.cell? ⟨(adP.add ((i + 1) * 2)).block, (adP.add ((i + 1) * 2)).off + 1, none⟩ = some (.float .f32 by_)) w9 := KO _ hx9
                    refine hK.out _ _ ?_ (fun hHeld => ?_)
                    · (first | exact hS9 | exact KS _ (by repeat (first | exact Ext.refl _ | assumption | refine Ext.setCell ?_ (by first | (simp; done) | (simp; omega)) _ | refine Ext.drewN ?_ _ | refine Ext.alloc ?_ _ | refine Ext.drew ?_ | refine Ext.trans ?_ (by assumption))))
                    clear hK K
                    simp only [put_mk, List.set_cons_succ, List.set_cons_zero]
                    refine wpAnyH_take (i := 25) (oi := ?o1x25) (v := ?v1x25) ?hi1x25 (by kernel_rfl) ?hf1x25 ?hr1x25 (fun _ _ _ h => h) ?hy1x25 (by assumption) ?rest1x25
                    case hi1x25 => (simp only [List.getElem?_toArray, List.getElem?_cons_succ, List.getElem?_cons_zero]; exact rfl)
                    case hf1x25 => kernel_rfl
                    case hr1x25 => kernel_rfl
                    case hy1x25 => (refine Or.inl ⟨by rfl, ?_⟩; intro w hSw; (try dsimp only at hSw); go_simp; try with_reducible rfl)
                    simp only [put_mk, List.set_cons_succ, List.set_cons_zero]
                    refine wpAnyH_done (by kernel_rfl) ?_ _
                    refine NoPanic.normal ?_
                    have HO9 := hidA (show OwnSp w9 wo.heap.size (.slice (some ⟨gg, 0, none⟩) (([(x0, y0)] ++ cutL xs i).length + 2) cap9) ([(x0, y0)] ++ cutL xs (i + 1)) from by
                      rw [Hnx.out, ← List.append_assoc]
                      exact OwnSp.push2 hown9)
                    have Hx9 := hidA hx9
                    clear Hnx Hxl hxa hown2 hnews hone hs9 hsz1 hmx2 hmb KS KO hown9 hgrow9 hat hlt hx9 hS9 hHeld HM1 HM2 hO hxi hxe hxrc hxb hxc
                    go_wp2
                    go_roundw
                    case rel => exact ⟨i + 1, Hin.out, (by first | rfl | go_num), HO9.out, Hx9.out⟩
                    case measure => exact nx_s2 Hin.out
                  · obtain rfl : q = i + 1 := by omega
                    obtain ⟨ad1, e1, hb1, c0, c1⟩ := sp_at (HRd.out.ext hxi) (k := i) (by have := HQ.out; omega)
                    injection e1 with e1
                    subst e1
                    rw [Nat.add_sub_cancel] at Hcut
                    obtain ⟨ax, ay, hpp⟩ : ∃ ax ay, xs.getD i (0, 0) = (ax, ay) := ⟨_, _, rfl⟩
                    rw [hpp, Hx0.out] at Hcut
                    rw [hpp] at c0 c1
                    dsimp only at c0 c1
                    have j0 : (0 : Int) ≤ i := by omega
                    have j1 : (i : Int) < (i : Int) + 1 := by omega
                    have i4 : IntKind.i64.wrap (i : Int) = (i : Int) := IntWalk.i64_in _ (by have := Hq.out; omega)
                    have i5 : wrap64 (i : Int) = (i : Int) := IntWalk.wrap64_in _ (by have := Hq.out; omega)
                    have Hxl := hidA (show ([(x0, y0)] ++ cutL xs i).length ≤ 51200 from by rw [List.length_append, cutL_length]; have := Hq.out; have h1 : [(x0, y0)].length = 1 := rfl; omega)
                    have hxn : Ext wr (wr.alloc (.cells #[.float .f32 ax, .float .f32 ay] 79)) := (Ext.refl wr).alloc _
                    have hownN := hidA (hO.ext hxn)
                    have hnewN : Hid (∀ j u, ([.float .f32 ax, .float .f32 ay] : List Value)[j]? = some u → (wr.alloc (.cells #[.float .f32 ax, .float .f32 ay] 79)).cell? ((⟨wr.heap.size, 0, none⟩ : Addr).add j) = some u) := World.news_of_block (cs := #[.float .f32 ax, .float .f32 ay]) (t := 79) (fr := (0, 0)) (heap_alloc_new wr _)
                    have honeN : Hid (∀ u ∈ ([.float .f32 ax, .float .f32 ay] : List Value), u.oneCell' = true) := by intro u hu; simp at hu; rcases hu with rfl | rfl <;> rfl
                    have hsN := hidA (hxi.trans hxn).size
                    have hmxN := hidA (maxl (b := 1) Hxl.out (by omega)).1
                    have hmbN := hidA (maxl (b := 1) Hxl.out (by omega)).2
                    have Hxm := hidA (hxi.trans hxn)
                    clear hxn hO hxi hpp hin hi hb1
                    go_upto_region 23 with (at_builtin; (refine wpList_append_lies _ (by rfl) _ _ 75 (by rfl) wo.heap.size 79 ti (.agg #[.float .f32 0, .float .f32 0]) 2 8 Try.underlying75 hi0 hz0 hz1 hz2 (by rfl) (by decide) _ _ _ (by rfl) hownN.out ⟨wr.heap.size, 0, none⟩ 1 1 [.float .f32 ax, .float .f32 ay] (by rfl) (by rfl) hnewN.out honeN.out (by omega) hmxN.out hmbN.out hsN.out (wr.heap.size + 1) (by simp) ?_; intro gA capA wA hownA hgrowA hatA hltA))
                    have hxA : Ext wo wA := Hxm.out.grown hgrowA (fun b hb => (World.ownsRow.lt hownN.out b hb).1)
                    have hOA : OwnSp wA wo.heap.size (.slice (some ⟨gA, 0, none⟩) (([(x0, y0)] ++ cutL xs i).length + 1) capA) (([(x0, y0)] ++ cutL xs i) ++ [(ax, ay)]) := OwnSp.push hownA
                    rw [← Hcut.out, Hxn.out] at hOA
                    have HOA := hidA (hOA.low hx.size)
                    have HxA := hidA (hx.trans hxA)
                    clear hownN hnewN honeN hsN Hxm hgrowA hatA hltA hownA hmxN hmbN hOA hxA c0 c1 i4 i5 j0 j1
                    go_wp2
                    go_roundw
                    case rel => exact ⟨m + 1, Hmt.out, (by first | rfl | go_num), HOA.out, HxA.out⟩
                    case measure => exact nxt_k Hmt.out
          · obtain rfl : tn = m := by omega
            obtain ⟨B1, c1, rfl, hr1⟩ := (HOv.out.ext hx).any
            obtain ⟨B2, c2, rfl, hr2⟩ := hO.any
            have hcl := Hle.out tn (Nat.le_refl _)
            have HEq := hidA (eqSp_same B1 B2 _ c1 c2 _ wr rfl hr1 hr2 (by omega))
            have Hend := hidA (hx2.trans hx)
            clear hO hr1 hr2 hx hcl hm hmt
            go_wp2_with (go_at_call 42; refine HEq.out.mono ?_; rintro e w9 ⟨rfl, hx9⟩)
            go_ret
            exact ⟨rfl, Hend.out.trans hx9⟩
      · obtain ⟨rfl, hev⟩ : v = .slice none 0 0 ∧ ev = rndE l t := by
          rcases HRA.out with ⟨_, h1, h2⟩ | ⟨h, _⟩
          · exact ⟨h1, h2⟩
          · exact absurd h hE
        rw [← hev] at hE
        have Hw4 := hidA (Hw3.out.trans hev.symm)
        have hne : (ev != 0) = true := by simpa using hE
        have HSE := fun (z : Int) (hz : rnB t = z) (B : Option Addr) (w : World) (h : Rd w B [.int .i64 wv, .int .i64 z]) => hidA (show Calls Try.prog 17 #[.slice B 2 2] w fun e w' => e = .returned (.int .i64 ev) ∧ w = w' from by have h9 := first_any B 2 2 [wv, z] w rfl h (by omega); rw [← hz, Hw4.out] at h9; exact h9)
        cases bt : (decide ((0 : Int) ≤ t) && decide (t ≤ 6))
        · have HSF := HSE 3 (by rw [Hbw.out, bt]; rfl)
          clear hev hE Hw3 Hw4 HRA Hzero HSE HS2 HO Hbw Hnb
          go_wp2_with (first | (go_at_call 35; refine ((HWi _ _ _ _).out).mono ?_; rintro e w7 ⟨rfl, hw7⟩; subst hw7) | (go_at_call 19; refine ((HWh _ _ _).out).mono ?_; rintro e w7 ⟨rfl, hw7⟩; subst hw7) | (go_at_call 17; refine ((HSF _ _ (Rd.new (by first | rfl | simp) (by first | rfl | simp))).out).mono ?_; rintro e w8 ⟨rfl, hw8⟩; subst hw8) | (go_at_call 15; refine ((HL _).out).mono ?_; rintro e w9 ⟨rfl, hx9⟩))
          all_goals
            go_ret
            exact ⟨by first | rfl | simp, hx.trans (by repeat (first | exact Ext.refl _ | assumption | refine Ext.setCell ?_ (by first | (simp; done) | (simp; omega)) _ | refine Ext.drewN ?_ _ | refine Ext.alloc ?_ _ | refine Ext.drew ?_ | refine Ext.trans ?_ (by assumption)))⟩
        · have HSF := HSE 0 (by rw [Hbw.out, bt]; rfl)
          clear hev hE Hw3 Hw4 HRA Hzero HSE HS2 HO Hbw Hnb
          go_wp2_with (first | (go_at_call 35; refine ((HWi _ _ _ _).out).mono ?_; rintro e w7 ⟨rfl, hw7⟩; subst hw7) | (go_at_call 19; refine ((HWh _ _ _).out).mono ?_; rintro e w7 ⟨rfl, hw7⟩; subst hw7) | (go_at_call 17; refine ((HSF _ _ (Rd.new (by first | rfl | simp) (by first | rfl | simp))).out).mono ?_; rintro e w8 ⟨rfl, hw8⟩; subst hw8) | (go_at_call 15; refine ((HL _).out).mono ?_; rintro e w9 ⟨rfl, hx9⟩))
          all_goals
            go_ret
            exact ⟨by first | rfl | simp, hx.trans (by repeat (first | exact Ext.refl _ | assumption | refine Ext.setCell ?_ (by first | (simp; done) | (simp; omega)) _ | refine Ext.drewN ?_ _ | refine Ext.alloc ?_ _ | refine Ext.drew ?_ | refine Ext.trans ?_ (by assumption)))⟩
end Go.Proofs.Ytpgdinpckolfpaa
