/- Contract: road.Rounded where its arguments are right. -/
import Derived.Test.YtpgdinpckolfpaaRvAB
namespace Go.Proofs.Ytpgdinpckolfpaa
open Go.RowKit
attribute [local go_sem ↓] Go.wp_at_zero Go.wp_at_succ
attribute [local go_sem] run_store_float

theorem maxl {a b : Nat} (h : a ≤ 51200) (hb : b ≤ 2) : a + b ≤ maxLen ∧ (a + b) * 8 ≤ 140737488355328 := by unfold maxLen; omega
theorem q_wrap {q : Nat} (h : 2 ≤ q) (h2 : q ≤ 12800) : wrap64 ((q : Int) - 1) = ((q - 1 : Nat) : Int) := by
  rw [IntWalk.wrap64_in _ ⟨by omega, by omega⟩]; omega
/-- what Rounded returns -/
def RndPost (l : List (Int × Int)) (t : Nat) (w : World) (e : Ending) (w' : World) : Prop := ∃ v, e = .returned (.tuple #[v, .int .i64 0]) ∧ OwnSp w' w.heap.size v (cutN (spP l) t) ∧ Ext w w'
set_option maxRecDepth 100000 in
set_option maxHeartbeats 6400000 in
theorem Rounded_ok (A : Option Addr) (n c : Nat) (l : List (Int × Int)) (tn : Nat) (w : World) (hn : l.length = n) (hV : Rd w A (ptv l)) (h0 : rnA n = 0) (hok : ∀ i, i < l.length → farP (l.getD i (0, 0)) = false) (ht : tn ≤ 6) :
    Calls Try.prog 40 #[.slice A n c, .int .i64 (tn : Int)] w fun e w' => RndPost l tn w e w' := by
  have HP := fun (x y : Int) (w : World) => hidA (place_any x y w)
  have Hn := hidA hn
  have hn1 := rnA_le h0
  have b0 : ((n : Int) == 0) = false := by simp; omega
  have b1 : decide ((200 : Int) < (n : Int)) = false := by simp; omega
  have c0 : ¬ (n : Int) = 0 := by omega
  have c1 : ¬ (200 : Int) < n := by omega
  have hn6 : n ≤ 200 := hn1.2
  have Hok := hidA hok
  have Ht := hidA ht
  have t0 : ¬ (tn : Int) < 0 := by omega
  have t6 : ¬ (6 : Int) < tn := by omega
  have t0b : decide ((tn : Int) < 0) = false := decide_eq_false t0
  have t6b : decide ((6 : Int) < tn) = false := decide_eq_false t6
  have Hbd := hidA (fun m (h : m ≤ tn) => cutN_bd (spP_bd hok) m (Nat.le_trans h ht))
  have Hle := hidA (fun m (h : m ≤ tn) => cutN_le (l := spP l) (by rw [spP_length]; omega) m (Nat.le_trans h ht))
  have Hone := hidA (fun m (h : (cutN (spP l) m).length ≤ 1) (h2 : m ≤ tn) => cutN_one h tn h2)
  have Hpos := hidA (show 1 ≤ l.length by omega)
  obtain ⟨ti, hi0, hz0, hz1, hz2⟩ := info_parts infoSpot
  have Hn1 := hidA hn1
  clear h0 hn hok ht hn1
  go_enter Try.func40, Try.ntmps40
  go_upto_region 6 with fail
  clear b0 b1 c0 c1
  go_loopw [26] (fun s26 wr => ∃ k : Nat, k ≤ n ∧ s26 = .int .i64 k ∧ Ext w wr) (fun s26 _ => n - (intOf s26).toNat)
  case atStart => exact ⟨0, Nat.zero_le _, rfl, Ext.refl _⟩
  case round =>
    obtain ⟨k, hk, rfl, hx⟩ := hrel
    by_cases hkn : k < n
    · have Hkn := hidA hkn
      have hkl : k < l.length := by have := Hn.out; omega
      obtain ⟨ad, rfl, hbk, d0, d1⟩ := pt_at (hV.ext hx) hkl
      have i0 : (0 : Int) ≤ k := by omega
      have i1 : (k : Int) < n := by omega
      obtain ⟨px, py, hpp⟩ : ∃ px py, l.getD k (0, 0) = (px, py) := ⟨_, _, rfl⟩
      rw [hpp] at d0 d1
      dsimp only at d0 d1
      have Hpp := hidA hpp
      have HPq := fun w => HP px py w
      have hb := Hok.out k hkl
      rw [hpp] at hb
      rw [hb] at HPq
      simp only [Bool.false_eq_true, if_false] at HPq
      clear hb hpp
      go_upto_region 8 with fail
      have kP : Bk (wr.alloc (.cells #[.int .i64 px, .int .i64 py] 32)) wr.heap.size 32 #[.int .i64 px, .int .i64 py] := Bk.new' rfl
      have hx1 := hx.alloc (.cells #[.int .i64 px, .int .i64 py] 32)
      clear d0 d1
      generalize wr.alloc (.cells #[.int .i64 px, .int .i64 py] 32) = w1 at *
      generalize wr.heap.size = ha at *
      have p0 := kP.cell 0
      have p1 := kP.cell 1
      go_wp2_with (go_at_call 77; refine ((HPq _).out).mono ?_; rintro e w2 ⟨rfl, hx2⟩)
      go_roundw
      case rel => exact ⟨k + 1, Hkn.out, (by first | rfl | go_num), hx1.trans hx2⟩
      case measure => exact nxt_k Hkn.out
    · obtain rfl : n = k := by omega
      clear hkn hk HP
      go_upto_region 16 with fail
      clear t0 t6 t0b t6b
      go_loopw [9, 44] (fun s9 s44 wz => ∃ k : Nat, k ≤ n ∧ s44 = .int .i64 k ∧ OwnSp wz w.heap.size s9 (tkP l k) ∧ Ext w wz) (fun _ s44 _ => n - (intOf s44).toNat)
      case atStart => exact ⟨0, Nat.zero_le _, rfl, World.ownsRow_nil _ _ _ _, hx⟩
      case round =>
        clear hx
        obtain ⟨k, hk, rfl, hO, hx⟩ := hrel
        by_cases hkn : k < n
        · have Hkn := hidA hkn
          have HP := fun (x y : Int) (w : World) => hidA (place_any x y w)
          have hkl : k < l.length := by have := Hn.out; omega
          obtain ⟨ad, rfl, hbk, d0, d1⟩ := pt_at (hV.ext hx) hkl
          have i0 : (0 : Int) ≤ k := by omega
          have i1 : (k : Int) < n := by omega
          obtain ⟨px, py, hpp⟩ : ∃ px py, l.getD k (0, 0) = (px, py) := ⟨_, _, rfl⟩
          rw [hpp] at d0 d1
          dsimp only at d0 d1
          have Hpp := hidA hpp
          have HPq := fun w => HP px py w
          have Hnx := hidA (show tkP l (k + 1) = tkP l k ++ [(floatOfInt .f32 px, floatOfInt .f32 py)] from by rw [tkP_next hkl, hpp])
          have Hxl := hidA (show (tkP l k).length ≤ 51200 from Nat.le_trans (tkP_le l k) (by have := Hn1.out; omega))
          clear hpp HPq HP hkl
          go_upto_region 18 with fail
          have kP : Bk (wr.alloc (.cells #[.int .i64 px, .int .i64 py] 32)) wr.heap.size 32 #[.int .i64 px, .int .i64 py] := Bk.new' rfl
          have hx1 := hx.alloc (.cells #[.int .i64 px, .int .i64 py] 32)
          have hO1 := hO.ext ((Ext.refl wr).alloc (.cells #[.int .i64 px, .int .i64 py] 32))
          clear hO hx
          clear d0 d1
          generalize wr.alloc (.cells #[.int .i64 px, .int .i64 py] 32) = w1 at *
          generalize wr.heap.size = ha at *
          have p0 := kP.cell 0
          have p1 := kP.cell 1
          have hxn : Ext w1 (w1.alloc (.cells #[.float .f32 (floatOfInt .f32 px), .float .f32 (floatOfInt .f32 py)] 79)) := (Ext.refl w1).alloc _
          have hownN := hidA (hO1.ext hxn)
          have hnewN : Hid (∀ j u, ([.float .f32 (floatOfInt .f32 px), .float .f32 (floatOfInt .f32 py)] : List Value)[j]? = some u → (w1.alloc (.cells #[.float .f32 (floatOfInt .f32 px), .float .f32 (floatOfInt .f32 py)] 79)).cell? ((⟨w1.heap.size, 0, none⟩ : Addr).add j) = some u) := World.news_of_block (cs := #[.float .f32 (floatOfInt .f32 px), .float .f32 (floatOfInt .f32 py)]) (t := 79) (fr := (0, 0)) (heap_alloc_new w1 _)
          have honeN : Hid (∀ u ∈ ([.float .f32 (floatOfInt .f32 px), .float .f32 (floatOfInt .f32 py)] : List Value), u.oneCell' = true) := by intro u hu; simp at hu; rcases hu with rfl | rfl <;> rfl
          have hsN := hidA (hx1.trans hxn).size
          have hmxN := hidA (maxl (b := 1) Hxl.out (by omega)).1
          have hmbN := hidA (maxl (b := 1) Hxl.out (by omega)).2
          have Hxn := hidA (hx1.trans hxn)
          clear hxn hO1 hx1
          go_upto_region 19 with (at_builtin; (refine wpList_append_lies _ (by rfl) _ _ 75 (by rfl) w.heap.size 79 ti (.agg #[.float .f32 0, .float .f32 0]) 2 8 Try.underlying75 hi0 hz0 hz1 hz2 (by rfl) (by decide) _ _ _ (by rfl) hownN.out ⟨w1.heap.size, 0, none⟩ 1 1 [.float .f32 (floatOfInt .f32 px), .float .f32 (floatOfInt .f32 py)] (by rfl) (by rfl) hnewN.out honeN.out (by omega) hmxN.out hmbN.out hsN.out (w1.heap.size + 1) (by simp) ?_; intro gA capA wA hownA hgrowA hatA hltA))
          have hxA : Ext w wA := Hxn.out.grown hgrowA (fun b hb => (World.ownsRow.lt hownN.out b hb).1)
          have hOA : OwnSp wA w.heap.size (.slice (some ⟨gA, 0, none⟩) ((tkP l k).length + 1) capA) (tkP l (k + 1)) := by
            rw [Hnx.out]
            exact OwnSp.push hownA
          clear hownN hnewN honeN hsN Hxn hgrowA hatA hltA hownA hmxN hmbN p0 p1 kP
          go_wp2
          go_roundw
          case rel => exact ⟨k + 1, Hkn.out, (by first | rfl | go_num), hOA, hxA⟩
          case measure => exact nxt_k Hkn.out
        · obtain rfl : n = k := by omega
          rw [show n = l.length from Hn.out.symm, tkP_all] at hO
          clear hkn hk
          go_upto_region 21 with fail
          go_loopw [9, 60] (fun s9 s60 wz => ∃ m : Nat, m ≤ tn ∧ s60 = .int .i64 m ∧ OwnSp wz w.heap.size s9 (cutN (spP l) m) ∧ Ext w wz) (fun _ s60 _ => tn - (intOf s60).toNat)
          case atStart => exact ⟨0, Nat.zero_le _, rfl, hO, hx⟩
          case round =>
            clear hO hx
            obtain ⟨m, hm, rfl, hO, hx⟩ := hrel
            by_cases hmt : m < tn
            · have Hmt := hidA hmt
              have Hxn := hidA (show cutO (cutN (spP l) m) = cutN (spP l) (m + 1) from rfl)
              have Hxb := hidA (Hbd.out m hm)
              have Hxe := hidA (Hle.out m hm)
              have Hx1 := hidA (fun h => Hone.out m h hm)
              have hK : 24 + 5 * m ≤ 100 := by have := Ht.out; omega
              obtain ⟨xs, hxs⟩ : ∃ xs, xs = cutN (spP l) m := ⟨_, rfl⟩
              rw [← hxs] at hO Hxn Hxb Hxe Hx1
              by_cases hxp : xs.length = 0
              · exfalso
                exact cutN_ne (by rw [spP_length]; exact Hpos.out) m (by rw [← hxs]; exact hxp)
              · obtain ⟨adP, cap, rfl, hbP, hcap, hRd⟩ := hO.form (by omega)
                have HO := hidA hO
                have HRd := hidA hRd
                by_cases hx1 : xs.length = 1
                · have hb1 : ((xs.length : Int) == 1) = true := by rw [hx1]; rfl
                  have hb2 : (xs.length : Int) = 1 := by omega
                  have Hfin := hidA (Hx1.out (by omega))
                  clear hxs hO hRd hm hmt
                  generalize hq : xs.length = q at *
                  go_wp2
                  go_ret2
                  exact ⟨_, rfl, by rw [Hfin.out]; subst hq; exact HO.out, hx⟩
                · have hq2 : 2 ≤ xs.length := by omega
                  have Hq := hidA (show 2 ≤ xs.length ∧ xs.length ≤ 12800 from ⟨hq2, Hxe.out⟩)
                  have Hcut := hidA (cutO_ne hq2)
                  obtain ⟨p0, r, hpr⟩ : ∃ p0 r, xs = p0 :: r := by
                    cases xs with
                    | nil => exact absurd rfl hxp
                    | cons p0 r => exact ⟨p0, r, rfl⟩
                  have HTl := hidA (Rd.sptail (by rw [← hpr]; exact hRd))
                  have Hgt := hidA (fun i => show xs.getD (i + 1) (0, 0) = r.getD i (0, 0) from by rw [hpr]; simp)
                  have Hrl := hidA (show r.length + 1 = xs.length from by rw [hpr]; rfl)
                  obtain ⟨ad0, e0, _, z0, z1⟩ := sp_at hRd (k := 0) (by omega)
                  injection e0 with e0
                  subst e0
                  rw [Nat.zero_mul, show adP.add 0 = adP from rfl] at z0 z1
                  obtain ⟨x0, y0, hx0⟩ : ∃ x0 y0, xs.getD 0 (0, 0) = (x0, y0) := ⟨_, _, rfl⟩
                  rw [hx0] at z0 z1
                  have Hx0 := hidA hx0
                  dsimp only at z0 z1
                  have hadd : adP.add 2 = ⟨adP.block, adP.off + 2, none⟩ := add_pos _ (by omega)
                  rw [hadd] at HTl
                  obtain ⟨adT, hadT⟩ : ∃ adT : Addr, adT = ⟨adP.block, adP.off + 2, none⟩ := ⟨_, rfl⟩
                  rw [← hadT] at HTl
                  have Hqc := hidA hcap
                  obtain ⟨q, hq⟩ : ∃ q, q = xs.length := ⟨_, rfl⟩
                  rw [← hq] at hxp hx1 hcap hq2 Hq Hqc Hrl HO Hcut Hxe ⊢
                  have HQ := hidA hq
                  have b1 : ((q : Int) == 1) = false := by simp; omega
                  have b2 : ¬ (q : Int) = 1 := by omega
                  have b3 : (0 : Int) < q := by omega
                  have b4 : (1 : Int) ≤ q := by omega
                  have b5 : (q : Int) ≤ cap := by omega
                  have b6 : ¬ (cap : Int) = 1 := by omega
                  have hq6 : q ≤ 12800 := Hq.out.2
                  obtain ⟨wo, rfl⟩ : ∃ wo, wo = wr := ⟨_, rfl⟩
                  clear hpr hx0 hq hxs hxp hx1 hq2 hcap hRd hO hadd hm
                  go_upto_region 24 with fail
                  have hON : OwnSp (wo.alloc (.cells #[.float .f32 x0, .float .f32 y0] 79)) wo.heap.size (.slice (some ⟨wo.heap.size, 0, none⟩) 1 1) ([(x0, y0)] ++ cutL xs 0) :=
                    by
                      rw [show [(x0, y0)] ++ cutL xs 0 = [(x0, y0)] from rfl]
                      exact ⟨rfl, .inr ⟨wo.heap.size, 1, _, rfl, Nat.le_refl _, Bk.new' rfl, by simp, by unfold maxLen; simp, by simp, by simp [spv]⟩⟩
                  have hxo : Ext wo (wo.alloc (.cells #[.float .f32 x0, .float .f32 y0] 79)) := (Ext.refl wo).alloc _
                  clear z0 z1
                  generalize hwn : wo.alloc (.cells #[.float .f32 x0, .float .f32 y0] 79) = wn at *
                  clear hwn
                  go_upto_region 25 with fail
                  rw [← hadT]
                  clear hadT b1 b2 b3 b4 b5 b6 hmt
                  go_loopw [12, 72] (fun s12 s72 wz => ∃ i : Nat, i ≤ q - 1 ∧ s72 = .int .i64 i ∧ OwnSp wz wo.heap.size s12 ([(x0, y0)] ++ cutL xs i) ∧ Ext wo wz) (fun _ s72 _ => q - (intOf s72).toNat)
                  case atStart => exact ⟨0, Nat.zero_le _, rfl, hON, hxo⟩
                  case round =>
                    clear hON hxo
                    obtain ⟨i, hi, rfl, hO, hxi⟩ := hrel
                    by_cases hin : i < q - 1
                    · have Hin := hidA hin
                      obtain ⟨ad1, e1, hb1, c0, c1⟩ := sp_at (HRd.out.ext hxi) (k := i) (by have := HQ.out; omega)
                      injection e1 with e1
                      subst e1
                      obtain ⟨ad2, e2, hb2, d0, d1⟩ := sp_at (HTl.out.ext hxi) (k := i) (by have := Hrl.out; omega)
                      injection e2 with e2
                      subst e2
                      rw [← Hgt.out i] at d0 d1
                      have hB1 := Hxb.out.get i
                      have hB2 := Hxb.out.get (i + 1)
                      have Hnx := hidA (show cutL xs (i + 1) = cutL xs i ++ [mixP (xs.getD i (0, 0)) (xs.getD (i + 1) (0, 0)) 1048576000, mixP (xs.getD i (0, 0)) (xs.getD (i + 1) (0, 0)) 1061158912] from rfl)
                      obtain ⟨ax, ay, hpp⟩ : ∃ ax ay, xs.getD i (0, 0) = (ax, ay) := ⟨_, _, rfl⟩
                      obtain ⟨bx, by_, hqq⟩ : ∃ bx by_, xs.getD (i + 1) (0, 0) = (bx, by_) := ⟨_, _, rfl⟩
                      rw [hpp] at c0 c1 hB1 Hnx
                      rw [hqq] at d0 d1 hB2 Hnx
                      dsimp only at c0 c1 d0 d1 hB1 hB2
                      unfold mixP at Hnx
                      dsimp only at Hnx
                      have HM1 := fun (w : World) => hidA (mix_any w hB1.1 hB2.1 quart_bd.1 hK)
                      have HM2 := fun (w : World) => hidA (mix_any w hB1.2 hB2.2 quart_bd.1 hK)
                      have HM3 := fun (w : World) => hidA (mix_any w hB1.1 hB2.1 quart_bd.2 hK)
                      have HM4 := fun (w : World) => hidA (mix_any w hB1.2 hB2.2 quart_bd.2 hK)
                      generalize mixB ax bx 1048576000 = m1 at *
                      generalize mixB ay by_ 1048576000 = m2 at *
                      generalize mixB ax bx 1061158912 = m3 at *
                      generalize mixB ay by_ 1061158912 = m4 at *
                      have i0 : (0 : Int) ≤ i := by omega
                      have i1 : (i : Int) < ((q - 1 : Nat) : Int) := by omega
                      have i2 : (i : Int) < q := by omega
                      have Hxl := hidA (show ([(x0, y0)] ++ cutL xs i).length ≤ 51200 from by rw [List.length_append, cutL_length]; have := Hq.out; have h1 : [(x0, y0)].length = 1 := rfl; omega)
                      clear hpp hqq hB1 hB2 hin hi hb1 hb2
                      go_upto_region 27 with fail
                      have kB : Bk (wr.alloc (.cells #[.float .f32 bx, .float .f32 by_] 79)) wr.heap.size 79 #[.float .f32 bx, .float .f32 by_] := Bk.new' rfl
                      have hx4 := (Ext.refl wr).alloc (.cells #[.float .f32 bx, .float .f32 by_] 79)
                      have hnB : u12.ownBlock ≠ some wr.heap.size := fun e => Nat.lt_irrefl _ (World.ownsRow.lt hO _ e).2
                      have c0' : (wr.alloc (.cells #[.float .f32 bx, .float .f32 by_] 79)).cell? (adP.add (i * 2)) = some (.float .f32 ax) := (hx4.cell _ (by rw [add_block]; have := hxi.size; omega)).trans c0
                      have c1' : (wr.alloc (.cells #[.float .f32 bx, .float .f32 by_] 79)).cell? ⟨(adP.add (i * 2)).block, (adP.add (i * 2)).off + 1, none⟩ = some (.float .f32 ay) := (hx4.cell ⟨(adP.add (i * 2)).block, (adP.add (i * 2)).off + 1, none⟩ (by show (adP.add (i * 2)).block < _; rw [add_block]; have := hxi.size; omega)).trans c1
                      have hO4 := hO.ext hx4
                      have hxi4 := hxi.trans hx4
                      have hltB := kB.lt
                      clear c0 c1 d0 d1 hO hxi hx4
                      generalize wr.alloc (.cells #[.float .f32 bx, .float .f32 by_] 79) = w4 at *
                      generalize wr.heap.size = hb at *
                      go_upto_region 28 with fail
                      have kA : Bk (w4.alloc (.cells #[.float .f32 ax, .float .f32 ay] 79)) w4.heap.size 79 #[.float .f32 ax, .float .f32 ay] := Bk.new' rfl
                      have hx5 := (Ext.refl w4).alloc (.cells #[.float .f32 ax, .float .f32 ay] 79)
                      have hnA : u12.ownBlock ≠ some w4.heap.size := fun e => Nat.lt_irrefl _ (World.ownsRow.lt hO4 _ e).2
                      have hO5 := hO4.ext hx5
                      have hxi5 := hxi4.trans hx5
                      have kB5 := kB.ext hx5
                      clear c0' c1' hO4 hxi4 kB hx5 hltB
                      generalize w4.alloc (.cells #[.float .f32 ax, .float .f32 ay] 79) = w5 at *
                      generalize w4.heap.size = ha at *
                      have hxe : Ext w5 (w5.drew.alloc (.cells #[.float .f32 m1, .float .f32 m2, .float .f32 m3, .float .f32 m4] 79)) := ((Ext.refl w5).drew).alloc _
                      have hxa := hidA (hxi5.trans hxe)
                      have kAa := hidA (kA.ext hxe)
                      have kBa := hidA (kB5.ext hxe)
                      have Hna := hidA hnA
                      have Hnb := hidA hnB
                      have hown2 := hidA (hO5.ext hxe)
                      have hnews : Hid (∀ j u, ([.float .f32 m1, .float .f32 m2, .float .f32 m3, .float .f32 m4] : List Value)[j]? = some u → (w5.drew.alloc (.cells #[.float .f32 m1, .float .f32 m2, .float .f32 m3, .float .f32 m4] 79)).cell? ((⟨w5.heap.size, 0, none⟩ : Addr).add j) = some u) := World.news_of_block (cs := #[.float .f32 m1, .float .f32 m2, .float .f32 m3, .float .f32 m4]) (t := 79) (fr := (0, 0)) (heap_alloc_new w5.drew _)
                      have hone : Hid (∀ u ∈ ([.float .f32 m1, .float .f32 m2, .float .f32 m3, .float .f32 m4] : List Value), u.oneCell' = true) := by intro u hu; simp at hu; rcases hu with rfl | rfl | rfl | rfl <;> rfl
                      have hs9 := hidA (show wo.heap.size ≤ (w5.drew.alloc (.cells #[.float .f32 m1, .float .f32 m2, .float .f32 m3, .float .f32 m4] 79)).heap.size from hxa.out.size)
                      have hsz1 := hidA (show (w5.drew.alloc (.cells #[.float .f32 m1, .float .f32 m2, .float .f32 m3, .float .f32 m4] 79)).heap.size = w5.heap.size + 1 from by rw [World.size_alloc]; rfl)
                      have hmx2 := hidA (maxl (b := 2) Hxl.out (by omega)).1
                      have hmb := hidA (maxl (b := 2) Hxl.out (by omega)).2
                      have KS : ∀ w', Ext w5 w' → (fun w' => w'.cell? ⟨ha, 0, none⟩ = some (.float .f32 ax) ∧ w'.cell? ⟨ha, 1, none⟩ = some (.float .f32 ay) ∧ w'.cell? ⟨hb, 0, none⟩ = some (.float .f32 bx) ∧ w'.cell? ⟨hb, 1, none⟩ = some (.float .f32 by_)) w' := fun w' h => ⟨(kA.ext h).cell 0, (kA.ext h).cell 1, (kB5.ext h).cell 0, (kB5.ext h).cell 1⟩
                      have hltA := kA.lt
                      have hltB := kB5.lt
                      clear hnA hnB hxe hO5 hxi5
                      refine wp_region_noPanic ?_
                      refine wp_region_held_drew (S := fun w' => w'.cell? ⟨ha, 0, none⟩ = some (.float .f32 ax) ∧ w'.cell? ⟨ha, 1, none⟩ = some (.float .f32 ay) ∧ w'.cell? ⟨hb, 0, none⟩ = some (.float .f32 bx) ∧ w'.cell? ⟨hb, 1, none⟩ = some (.float .f32 by_)) (by kernel_rfl) ?_ (fun hHeld => ?_)
                      · (first | exact hS9 | exact KS _ (by repeat (first | exact Ext.refl _ | assumption | refine Ext.setCell ?_ (by first | (simp; done) | (simp; omega)) _ | refine Ext.drewN ?_ _ | refine Ext.alloc ?_ _ | refine Ext.drew ?_ | refine Ext.trans ?_ (by assumption))))
                      refine wpAnyH_take (i := 0) (oi := ?o1x0) (v := ?v1x0) ?hi1x0 (by kernel_rfl) ?hf1x0 ?hr1x0 (fun _ _ _ h => h) ?hy1x0 (by assumption) ?rest1x0
                      case hi1x0 => (simp only [List.getElem?_toArray, List.getElem?_cons_zero]; exact rfl)
                      case hf1x0 => kernel_rfl
                      case hr1x0 => kernel_rfl
                      case hy1x0 => (refine Or.inl ⟨by rfl, ?_⟩; intro w hSw; (try dsimp only at hSw); go_simp; try with_reducible rfl)
                      simp only [put_mk, List.set_cons_succ, List.set_cons_zero]
                      refine wpAnyH_take (i := 1) (oi := ?o1x1) (v := ?v1x1) ?hi1x1 (by kernel_rfl) ?hf1x1 ?hr1x1 (fun _ _ _ h => h) ?hy1x1 (by assumption) ?rest1x1
                      case hi1x1 => (simp only [List.getElem?_toArray, List.getElem?_cons_succ, List.getElem?_cons_zero]; exact rfl)
                      case hf1x1 => kernel_rfl
                      case hr1x1 => kernel_rfl
                      case hy1x1 => (refine Or.inl ⟨by rfl, ?_⟩; intro w hSw; (try dsimp only at hSw); go_simp; try with_reducible rfl)
                      simp only [put_mk, List.set_cons_succ, List.set_cons_zero]
                      refine wpAnyH_take (i := 2) (oi := ?o1x2) (v := ?v1x2) ?hi1x2 (by kernel_rfl) ?hf1x2 ?hr1x2 (fun _ _ _ h => h) ?hy1x2 (by assumption) ?rest1x2
                      case hi1x2 => (simp only [List.getElem?_toArray, List.getElem?_cons_succ, List.getElem?_cons_zero]; exact rfl)
                      case hf1x2 => kernel_rfl
                      case hr1x2 => kernel_rfl
                      case hy1x2 => (refine Or.inl ⟨by rfl, ?_⟩; intro w hSw; (try dsimp only at hSw); go_simp; try with_reducible rfl)
                      simp only [put_mk, List.set_cons_succ, List.set_cons_zero]
                      refine wpAnyH_take (i := 3) (oi := ?o1x3) (v := ?v1x3) ?hi1x3 (by kernel_rfl) ?hf1x3 ?hr1x3 (fun _ _ _ h => h) ?hy1x3 (by assumption) ?rest1x3
                      case hi1x3 => (simp only [List.getElem?_toArray, List.getElem?_cons_succ, List.getElem?_cons_zero]; exact rfl)
                      case hf1x3 => kernel_rfl
                      case hr1x3 => kernel_rfl
                      case hy1x3 => (refine Or.inl ⟨by rfl, ?_⟩; intro w hSw; (try dsimp only at hSw); go_simp; try with_reducible rfl)
                      simp only [put_mk, List.set_cons_succ, List.set_cons_zero]
                      refine wpAnyH_take (i := 4) (oi := ?o1x4) (v := ?v1x4) ?hi1x4 (by kernel_rfl) ?hf1x4 ?hr1x4 (fun _ _ _ h => h) ?hy1x4 (by assumption) ?rest1x4
                      case hi1x4 => (simp only [List.getElem?_toArray, List.getElem?_cons_succ, List.getElem?_cons_zero]; exact rfl)
                      case hf1x4 => kernel_rfl
                      case hr1x4 => kernel_rfl
                      case hy1x4 => (refine Or.inl ⟨by rfl, ?_⟩; intro w hSw; (try dsimp only at hSw); go_simp; try with_reducible rfl)
                      simp only [put_mk, List.set_cons_succ, List.set_cons_zero]
                      refine wpAnyH_take (i := 6) (oi := ?o1x6) (v := ?v1x6) ?hi1x6 (by kernel_rfl) ?hf1x6 ?hr1x6 (fun _ _ _ h => h) ?hy1x6 (by assumption) ?rest1x6
                      case hi1x6 => (simp only [List.getElem?_toArray, List.getElem?_cons_succ, List.getElem?_cons_zero]; exact rfl)
                      case hf1x6 => kernel_rfl
                      case hr1x6 => kernel_rfl
                      case hy1x6 => (refine Or.inl ⟨by rfl, ?_⟩; intro w hSw; (try dsimp only at hSw); go_simp; try with_reducible rfl)
                      simp only [put_mk, List.set_cons_succ, List.set_cons_zero]
                      refine wpAnyH_take (i := 7) (oi := ?o1x7) (v := ?v1x7) ?hi1x7 (by kernel_rfl) ?hf1x7 ?hr1x7 (fun _ _ _ h => h) ?hy1x7 (by assumption) ?rest1x7
                      case hi1x7 => (simp only [List.getElem?_toArray, List.getElem?_cons_succ, List.getElem?_cons_zero]; exact rfl)
                      case hf1x7 => kernel_rfl
                      case hr1x7 => kernel_rfl
                      case hy1x7 => (refine Or.inl ⟨by rfl, ?_⟩; intro w hSw; (try dsimp only at hSw); go_simp; try with_reducible rfl)
                      simp only [put_mk, List.set_cons_succ, List.set_cons_zero]
                      refine wpAnyH_take (i := 8) (oi := ?o1x8) (v := ?v1x8) ?hi1x8 (by kernel_rfl) ?hf1x8 ?hr1x8 (fun _ _ _ h => h) ?hy1x8 (by assumption) ?rest1x8
                      case hi1x8 => (simp only [List.getElem?_toArray, List.getElem?_cons_succ, List.getElem?_cons_zero]; exact rfl)
                      case hf1x8 => kernel_rfl
                      case hr1x8 => kernel_rfl
                      case hy1x8 => (refine Or.inl ⟨by rfl, ?_⟩; intro w hSw; (try dsimp only at hSw); go_simp; try with_reducible rfl)
                      simp only [put_mk, List.set_cons_succ, List.set_cons_zero]
                      refine wpAnyH_take (i := 9) (oi := ?o1x9) (v := ?v1x9) ?hi1x9 (by kernel_rfl) ?hf1x9 ?hr1x9 (fun _ _ _ h => h) ?hy1x9 (by assumption) ?rest1x9
                      case hi1x9 => (simp only [List.getElem?_toArray, List.getElem?_cons_succ, List.getElem?_cons_zero]; exact rfl)
                      case hf1x9 => kernel_rfl
                      case hr1x9 => kernel_rfl
                      case hy1x9 => (refine Or.inl ⟨by rfl, ?_⟩; intro w hSw; (try dsimp only at hSw); go_simp; try with_reducible rfl)
                      simp only [put_mk, List.set_cons_succ, List.set_cons_zero]
                      refine wpAnyH_take (i := 12) (oi := ?o1x12) (v := ?v1x12) ?hi1x12 (by kernel_rfl) ?hf1x12 ?hr1x12 (fun _ _ _ h => h) ?hy1x12 (by assumption) ?rest1x12
                      case hi1x12 => (simp only [List.getElem?_toArray, List.getElem?_cons_succ, List.getElem?_cons_zero]; exact rfl)
                      case hf1x12 => kernel_rfl
                      case hr1x12 => kernel_rfl
                      case hy1x12 => (refine Or.inl ⟨by rfl, ?_⟩; intro w hSw; (try dsimp only at hSw); go_simp; try with_reducible rfl)
                      simp only [put_mk, List.set_cons_succ, List.set_cons_zero]
                      refine wpAnyH_take (i := 13) (oi := ?o1x13) (v := ?v1x13) ?hi1x13 (by kernel_rfl) ?hf1x13 ?hr1x13 (fun _ _ _ h => h) ?hy1x13 (by assumption) ?rest1x13
                      case hi1x13 => (simp only [List.getElem?_toArray, List.getElem?_cons_succ, List.getElem?_cons_zero]; exact rfl)
                      case hf1x13 => kernel_rfl
                      case hr1x13 => kernel_rfl
                      case hy1x13 => (refine Or.inl ⟨by rfl, ?_⟩; intro w hSw; (try dsimp only at hSw); go_simp; try with_reducible rfl)
                      simp only [put_mk, List.set_cons_succ, List.set_cons_zero]
                      refine wpAnyH_take (i := 14) (oi := ?o1x14) (v := ?v1x14) ?hi1x14 (by kernel_rfl) ?hf1x14 ?hr1x14 (fun _ _ _ h => h) ?hy1x14 (by assumption) ?rest1x14
                      case hi1x14 => (simp only [List.getElem?_toArray, List.getElem?_cons_succ, List.getElem?_cons_zero]; exact rfl)
                      case hf1x14 => kernel_rfl
                      case hr1x14 => kernel_rfl
                      case hy1x14 => (refine Or.inl ⟨by rfl, ?_⟩; intro w hSw; (try dsimp only at hSw); go_simp; try with_reducible rfl)
                      simp only [put_mk, List.set_cons_succ, List.set_cons_zero]
                      refine wpAnyH_take (i := 15) (oi := ?o1x15) (v := ?v1x15) ?hi1x15 (by kernel_rfl) ?hf1x15 ?hr1x15 (fun _ _ _ h => h) ?hy1x15 (by assumption) ?rest1x15
                      case hi1x15 => (simp only [List.getElem?_toArray, List.getElem?_cons_succ, List.getElem?_cons_zero]; exact rfl)
                      case hf1x15 => kernel_rfl
                      case hr1x15 => kernel_rfl
                      case hy1x15 => (refine Or.inl ⟨by rfl, ?_⟩; intro w hSw; (try dsimp only at hSw); go_simp; try with_reducible rfl)
                      simp only [put_mk, List.set_cons_succ, List.set_cons_zero]
                      refine wpAnyH_take (i := 17) (oi := ?o1x17) (v := ?v1x17) ?hi1x17 (by kernel_rfl) ?hf1x17 ?hr1x17 (fun _ _ _ h => h) ?hy1x17 (by assumption) ?rest1x17
                      case hi1x17 => (simp only [List.getElem?_toArray, List.getElem?_cons_succ, List.getElem?_cons_zero]; exact rfl)
                      case hf1x17 => kernel_rfl
                      case hr1x17 => kernel_rfl
                      case hy1x17 => (refine Or.inl ⟨by rfl, ?_⟩; intro w hSw; (try dsimp only at hSw); go_simp; try with_reducible rfl)
                      simp only [put_mk, List.set_cons_succ, List.set_cons_zero]
                      refine wpAnyH_take (i := 18) (oi := ?o1x18) (v := ?v1x18) ?hi1x18 (by kernel_rfl) ?hf1x18 ?hr1x18 (fun _ _ _ h => h) ?hy1x18 (by assumption) ?rest1x18
                      case hi1x18 => (simp only [List.getElem?_toArray, List.getElem?_cons_succ, List.getElem?_cons_zero]; exact rfl)
                      case hf1x18 => kernel_rfl
                      case hr1x18 => kernel_rfl
                      case hy1x18 => (refine Or.inl ⟨by rfl, ?_⟩; intro w hSw; (try dsimp only at hSw); go_simp; try with_reducible rfl)
                      simp only [put_mk, List.set_cons_succ, List.set_cons_zero]
                      refine wpAnyH_take (i := 19) (oi := ?o1x19) (v := ?v1x19) ?hi1x19 (by kernel_rfl) ?hf1x19 ?hr1x19 (fun _ _ _ h => h) ?hy1x19 (by assumption) ?rest1x19
                      case hi1x19 => (simp only [List.getElem?_toArray, List.getElem?_cons_succ, List.getElem?_cons_zero]; exact rfl)
                      case hf1x19 => kernel_rfl
                      case hr1x19 => kernel_rfl
                      case hy1x19 => (refine Or.inl ⟨by rfl, ?_⟩; intro w hSw; (try dsimp only at hSw); go_simp; try with_reducible rfl)
                      simp only [put_mk, List.set_cons_succ, List.set_cons_zero]
                      refine wpAnyH_take (i := 20) (oi := ?o1x20) (v := ?v1x20) ?hi1x20 (by kernel_rfl) ?hf1x20 ?hr1x20 (fun _ _ _ h => h) ?hy1x20 (by assumption) ?rest1x20
                      case hi1x20 => (simp only [List.getElem?_toArray, List.getElem?_cons_succ, List.getElem?_cons_zero]; exact rfl)
                      case hf1x20 => kernel_rfl
                      case hr1x20 => kernel_rfl
                      case hy1x20 => (refine Or.inl ⟨by rfl, ?_⟩; intro w hSw; (try dsimp only at hSw); go_simp; try with_reducible rfl)
                      simp only [put_mk, List.set_cons_succ, List.set_cons_zero]
                      refine wpAnyH_ready (rs := [5]) (by kernel_rfl) (by simp) ?_
                      refine AllReadyH.cons (o := ?o1x5) ?hi1x5 (fun K hK => ?_) AllReadyH.nil
                      case hi1x5 => (simp only [List.getElem?_toArray, List.getElem?_cons_succ, List.getElem?_cons_zero]; exact rfl)
                      go_simp
                      go_at_call 81
                      refine ((HM1 _).out).mono ?_
                      rintro e wb ⟨rfl, hwb⟩
                      subst hwb
                      refine hK.out _ _ ?_ (fun hHeld => ?_)
                      · (first | exact hS9 | exact KS _ (by repeat (first | exact Ext.refl _ | assumption | refine Ext.setCell ?_ (by first | (simp; done) | (simp; omega)) _ | refine Ext.drewN ?_ _ | refine Ext.alloc ?_ _ | refine Ext.drew ?_ | refine Ext.trans ?_ (by assumption))))
                      clear hK K
                      refine wpAnyH_ready (rs := [10]) (by kernel_rfl) (by simp) ?_
                      refine AllReadyH.cons (o := ?o1x10) ?hi1x10 (fun K hK => ?_) AllReadyH.nil
                      case hi1x10 => (simp only [List.getElem?_toArray, List.getElem?_cons_succ, List.getElem?_cons_zero]; exact rfl)
                      go_simp
                      go_at_call 81
                      refine ((HM2 _).out).mono ?_
                      rintro e wb ⟨rfl, hwb⟩
                      subst hwb
                      refine hK.out _ _ ?_ (fun hHeld => ?_)
                      · (first | exact hS9 | exact KS _ (by repeat (first | exact Ext.refl _ | assumption | refine Ext.setCell ?_ (by first | (simp; done) | (simp; omega)) _ | refine Ext.drewN ?_ _ | refine Ext.alloc ?_ _ | refine Ext.drew ?_ | refine Ext.trans ?_ (by assumption))))
                      clear hK K
                      refine wpAnyH_take (i := 11) (oi := ?o1x11) (v := ?v1x11) ?hi1x11 (by kernel_rfl) ?hf1x11 ?hr1x11 (fun _ _ _ h => h) ?hy1x11 (by assumption) ?rest1x11
                      case hi1x11 => (simp only [List.getElem?_toArray, List.getElem?_cons_succ, List.getElem?_cons_zero]; exact rfl)
                      case hf1x11 => kernel_rfl
                      case hr1x11 => kernel_rfl
                      case hy1x11 => (refine Or.inl ⟨by rfl, ?_⟩; intro w hSw; (try dsimp only at hSw); go_simp; try with_reducible rfl)
                      simp only [put_mk, List.set_cons_succ, List.set_cons_zero]
                      refine wpAnyH_ready (rs := [16]) (by kernel_rfl) (by simp) ?_
                      refine AllReadyH.cons (o := ?o1x16) ?hi1x16 (fun K hK => ?_) AllReadyH.nil
                      case hi1x16 => (simp only [List.getElem?_toArray, List.getElem?_cons_succ, List.getElem?_cons_zero]; exact rfl)
                      go_simp
                      go_at_call 81
                      refine ((HM3 _).out).mono ?_
                      rintro e wb ⟨rfl, hwb⟩
                      subst hwb
                      refine hK.out _ _ ?_ (fun hHeld => ?_)
                      · (first | exact hS9 | exact KS _ (by repeat (first | exact Ext.refl _ | assumption | refine Ext.setCell ?_ (by first | (simp; done) | (simp; omega)) _ | refine Ext.drewN ?_ _ | refine Ext.alloc ?_ _ | refine Ext.drew ?_ | refine Ext.trans ?_ (by assumption))))
                      clear hK K
                      refine wpAnyH_ready (rs := [21]) (by kernel_rfl) (by simp) ?_
                      refine AllReadyH.cons (o := ?o1x21) ?hi1x21 (fun K hK => ?_) AllReadyH.nil
                      case hi1x21 => (simp only [List.getElem?_toArray, List.getElem?_cons_succ, List.getElem?_cons_zero]; exact rfl)
                      go_simp
                      go_at_call 81
                      refine ((HM4 _).out).mono ?_
                      rintro e wb ⟨rfl, hwb⟩
                      subst hwb
                      refine hK.out _ _ ?_ (fun hHeld => ?_)
                      · (first | exact hS9 | exact KS _ (by repeat (first | exact Ext.refl _ | assumption | refine Ext.setCell ?_ (by first | (simp; done) | (simp; omega)) _ | refine Ext.drewN ?_ _ | refine Ext.alloc ?_ _ | refine Ext.drew ?_ | refine Ext.trans ?_ (by assumption))))
                      clear hK K
                      refine wpAnyH_take (i := 22) (oi := ?o1x22) (v := ?v1x22) ?hi1x22 (by kernel_rfl) ?hf1x22 ?hr1x22 (fun _ _ _ h => h) ?hy1x22 (by assumption) ?rest1x22
                      case hi1x22 => (simp only [List.getElem?_toArray, List.getElem?_cons_succ, List.getElem?_cons_zero]; exact rfl)
                      case hf1x22 => kernel_rfl
                      case hr1x22 => kernel_rfl
                      case hy1x22 => (refine Or.inl ⟨by rfl, ?_⟩; intro w hSw; (try dsimp only at hSw); go_simp; try with_reducible rfl)
                      simp only [put_mk, List.set_cons_succ, List.set_cons_zero]
                      refine wpAnyH_ready (rs := [23]) (by kernel_rfl) (by simp) ?_
                      refine AllReadyH.cons (o := ?o1x23) ?hi1x23 (fun K hK => ?_) AllReadyH.nil
                      case hi1x23 => (simp only [List.getElem?_toArray, List.getElem?_cons_succ, List.getElem?_cons_zero]; exact rfl)
                      go_simp
                      refine hK.out _ _ ?_ (fun hHeld => ?_)
                      · (first | exact hS9 | exact KS _ (by repeat (first | exact Ext.refl _ | assumption | refine Ext.setCell ?_ (by first | (simp; done) | (simp; omega)) _ | refine Ext.drewN ?_ _ | refine Ext.alloc ?_ _ | refine Ext.drew ?_ | refine Ext.trans ?_ (by assumption))))
                      clear hK K
                      refine wpAnyH_ready (rs := [24]) (by kernel_rfl) (by simp) ?_
                      refine AllReadyH.cons (o := ?o1x24) ?hi1x24 (fun K hK => ?_) AllReadyH.nil
                      case hi1x24 => (simp only [List.getElem?_toArray, List.getElem?_cons_succ, List.getElem?_cons_zero]; exact rfl)
                      refine step_append_lies _ (by rfl) (.tmp 81) (.tmp 104) 75 (by rfl) wo.heap.size 79 ti (.agg #[.float .f32 0, .float .f32 0]) 2 8 Try.underlying75 hi0 hz0 hz1 hz2 (by rfl) (by decide) _ _ _ (by rfl) hown2.out ⟨w5.heap.size, 0, none⟩ 2 2 [.float .f32 m1, .float .f32 m2, .float .f32 m3, .float .f32 m4] (by rfl) (by rfl) hnews.out hone.out (by omega) hmx2.out hmb.out hs9.out (w5.heap.size + 1) hsz1.out ?_
                      intro gg cap9 w9 hown9 hgrow9 hat hlt
                      have hx9 : Ext wo w9 := hxa.out.grown hgrow9 (fun b hb => (World.ownsRow.lt hown2.out b hb).1)
                      have kA9 : Bk w9 ha 79 #[.float .f32 ax, .float .f32 ay] := kAa.out.grown hgrow9 (fun e => Hna.out e.symm)
                      have kB9 : Bk w9 hb 79 #[.float .f32 bx, .float .f32 by_] := kBa.out.grown hgrow9 (fun e => Hnb.out e.symm)
                      have hS9 : (fun w' => w'.cell? ⟨ha, 0, none⟩ = some (.float .f32 ax) ∧ w'.cell? ⟨ha, 1, none⟩ = some (.float .f32 ay) ∧ w'.cell? ⟨hb, 0, none⟩ = some (.float .f32 bx) ∧ w'.cell? ⟨hb, 1, none⟩ = some (.float .f32 by_)) w9 := ⟨kA9.cell 0, kA9.cell 1, kB9.cell 0, kB9.cell 1⟩
                      refine hK.out _ _ ?_ (fun hHeld => ?_)
                      · (first | exact hS9 | exact KS _ (by repeat (first | exact Ext.refl _ | assumption | refine Ext.setCell ?_ (by first | (simp; done) | (simp; omega)) _ | refine Ext.drewN ?_ _ | refine Ext.alloc ?_ _ | refine Ext.drew ?_ | refine Ext.trans ?_ (by assumption))))
                      clear hK K
                      simp only [put_mk, List.set_cons_succ, List.set_cons_zero]
                      refine wpAnyH_take (i := 25) (oi := ?o1x25) (v := ?v1x25) ?hi1x25 (by kernel_rfl) ?hf1x25 ?hr1x25 (fun _ _ _ h => h) ?hy1x25 (by assumption) ?rest1x25
                      case hi1x25 => (simp only [List.getElem?_toArray, List.getElem?_cons_succ, List.getElem?_cons_zero]; exact rfl)
                      case hf1x25 => kernel_rfl
                      case hr1x25 => kernel_rfl
                      case hy1x25 => (refine Or.inl ⟨by rfl, ?_⟩; intro w hSw; (try dsimp only at hSw); go_simp; try with_reducible rfl)
                      simp only [put_mk, List.set_cons_succ, List.set_cons_zero]
                      refine wpAnyH_done (by kernel_rfl) ?_ _
                      refine NoPanic.normal ?_
                      have HO9 := hidA (show OwnSp w9 wo.heap.size (.slice (some ⟨gg, 0, none⟩) (([(x0, y0)] ++ cutL xs i).length + 2) cap9) ([(x0, y0)] ++ cutL xs (i + 1)) from by
                        rw [Hnx.out, ← List.append_assoc]
                        exact OwnSp.push2 hown9)
                      have Hx9 := hidA hx9
                      clear Hnx Hxl hxa kAa kBa Hna Hnb hown2 hnews hone hs9 hsz1 hmx2 hmb KS hltA hltB hown9 hgrow9 hat hlt hx9 kA9 kB9 hS9 hHeld kA kB5 HM1 HM2 HM3 HM4
                      go_wp2
                      go_roundw
                      case rel => exact ⟨i + 1, Hin.out, (by first | rfl | go_num), (by first | exact HO9.out | (have h8 := HO9.out; simp only [List.length_append, List.length_cons, List.length_nil] at h8 ⊢; rw [Nat.add_comm 1] at h8; exact h8)), Hx9.out⟩
                      case measure => exact nxt_k (lt_pred Hin.out)
                    · obtain rfl : i = q - 1 := by omega
                      obtain ⟨ad1, e1, hb1, c0, c1⟩ := sp_at (HRd.out.ext hxi) (k := q - 1) (by have := HQ.out; have := Hq.out; omega)
                      injection e1 with e1
                      subst e1
                      obtain ⟨ax, ay, hpp⟩ : ∃ ax ay, xs.getD (q - 1) (0, 0) = (ax, ay) := ⟨_, _, rfl⟩
                      rw [hpp, Hx0.out] at Hcut
                      rw [hpp] at c0 c1
                      dsimp only at c0 c1
                      have hw := q_wrap Hq.out.1 Hq.out.2
                      have j0 : (0 : Int) ≤ ((q - 1 : Nat) : Int) := by omega
                      have j1 : ((q - 1 : Nat) : Int) < q := by have := Hq.out; omega
                      have j2 : ¬ ((q - 1 : Nat) : Int) < ((q - 1 : Nat) : Int) := by omega
                      have Hxl := hidA (show ([(x0, y0)] ++ cutL xs (q - 1)).length ≤ 51200 from by rw [List.length_append, cutL_length]; have := Hq.out; have h1 : [(x0, y0)].length = 1 := rfl; omega)
                      have hxn : Ext wr (wr.alloc (.cells #[.float .f32 ax, .float .f32 ay] 79)) := (Ext.refl wr).alloc _
                      have hownN := hidA (hO.ext hxn)
                      have hnewN : Hid (∀ j u, ([.float .f32 ax, .float .f32 ay] : List Value)[j]? = some u → (wr.alloc (.cells #[.float .f32 ax, .float .f32 ay] 79)).cell? ((⟨wr.heap.size, 0, none⟩ : Addr).add j) = some u) := World.news_of_block (cs := #[.float .f32 ax, .float .f32 ay]) (t := 79) (fr := (0, 0)) (heap_alloc_new wr _)
                      have honeN : Hid (∀ u ∈ ([.float .f32 ax, .float .f32 ay] : List Value), u.oneCell' = true) := by intro u hu; simp at hu; rcases hu with rfl | rfl <;> rfl
                      have hsN := hidA (hxi.trans hxn).size
                      have hmxN := hidA (maxl (b := 1) Hxl.out (by omega)).1
                      have hmbN := hidA (maxl (b := 1) Hxl.out (by omega)).2
                      have Hxm := hidA (hxi.trans hxn)
                      clear hxn hO hxi hpp hin hi hb1
                      go_upto_region 31 with (at_builtin; (refine wpList_append_lies _ (by rfl) _ _ 75 (by rfl) wo.heap.size 79 ti (.agg #[.float .f32 0, .float .f32 0]) 2 8 Try.underlying75 hi0 hz0 hz1 hz2 (by rfl) (by decide) _ _ _ (by rfl) hownN.out ⟨wr.heap.size, 0, none⟩ 1 1 [.float .f32 ax, .float .f32 ay] (by rfl) (by rfl) hnewN.out honeN.out (by omega) hmxN.out hmbN.out hsN.out (wr.heap.size + 1) (by simp) ?_; intro gA capA wA hownA hgrowA hatA hltA))
                      have hxA : Ext wo wA := Hxm.out.grown hgrowA (fun b hb => (World.ownsRow.lt hownN.out b hb).1)
                      have hOA : OwnSp wA wo.heap.size (.slice (some ⟨gA, 0, none⟩) (([(x0, y0)] ++ cutL xs (q - 1)).length + 1) capA) (([(x0, y0)] ++ cutL xs (q - 1)) ++ [(ax, ay)]) := OwnSp.push hownA
                      rw [← Hcut.out, Hxn.out] at hOA
                      have HOA := hidA (hOA.low hx.size)
                      have HxA := hidA (hx.trans hxA)
                      clear hownN hnewN honeN hsN Hxm hgrowA hatA hltA hownA hmxN hmbN hOA hxA c0 c1 hw j0 j1 j2
                      go_wp2
                      go_roundw
                      case rel => exact ⟨m + 1, Hmt.out, (by first | rfl | go_num), HOA.out, HxA.out⟩
                      case measure => exact nxt_k Hmt.out
            · obtain rfl : tn = m := by omega
              have HO := hidA hO
              clear hO hm
              go_wp2
              go_ret2
              exact ⟨_, rfl, HO.out, hx⟩
end Go.Proofs.Ytpgdinpckolfpaa
