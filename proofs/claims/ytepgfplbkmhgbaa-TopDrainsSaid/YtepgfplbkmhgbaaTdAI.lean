/- What water.drain holds in memory between its rounds; the directions of the first k cells. -/
import Derived.Test.YtepgfplbkmhgbaaTdAH
namespace Go.Proofs.Ytepgfplbkmhgbaa
open Go.RowKit
attribute [local go_sem ↓] Go.wp_at_zero Go.wp_at_succ
attribute [local go_sem] run_store_float

theorem enters_ranks : ∀ args w, (callFunc 52 args).run Try.prog w = .ok (.enter 52 args) w := enters_of Try.func52 (by kernel_rfl) rfl
theorem src_dir {v : Nat → Nat} {Wn Hn k : Nat} : srcB v Wn Hn k = (decide ((stp v Wn Hn k 8).1 ≠ -1) || brd Wn Hn k) := by
  unfold srcB
  congr 1
  rw [decide_eq_decide]
  constructor
  · intro h; omega
  · intro h
    rcases Int.lt_or_le (stp v Wn Hn k 8).1 0 with h2 | h2
    · rw [stp_neg 8 h2] at h
      exact absurd rfl h
    · exact h2
set_option maxRecDepth 100000 in
set_option maxHeartbeats 6400000 in
theorem ranks_any (X Y : Int) (Wn Hn N : Nat) (A : Option Addr) (c gd : Nat) (l : List Nat) (w : World) (K : Nat → Int) (hrg : Reg X Y Wn Hn) (hN : N = Wn * Hn) (hl : l.length = N) (hV : Rd w A (flt l)) (hh : ∀ j, j < N → Bd 20 (l.getD j 0)) (hR : Rk Wn Hn N (fun k => valI (l.getD k 0)) (srcB (fun j => l.getD j 0) Wn Hn) K)
    (hD : Bk w gd 3 (intB N fun k => (stp (fun j => l.getD j 0) Wn Hn k 8).1)) :
    Calls Try.prog 43 #[.agg #[.int .i64 X, .int .i64 Y, .int .i64 (Wn : Int), .int .i64 (Hn : Int), .slice A N c], .slice (some ⟨gd, 0, none⟩) N N] w fun e w' => ∃ gr, e = .returned (.slice (some ⟨gr, 0, none⟩) N N) ∧ Bk w' gr 3 (intB N K) ∧ w.heap.size ≤ gr ∧ Ext w w' := by
  have hN6 : N ≤ 65536 := by rw [hN]; exact hrg.n
  have mi := mk_int N (by omega)
  have dl := hD.lt
  have HN := hidA hN
  have Hl := hidA hl
  have Hh := hidA hh
  have HR := hidA hR
  have Hrg := hidA hrg
  have HBo := fun (k : Nat) (w : World) (hk : k < N) => hidA (border_any X Y Wn Hn k w hrg (by rw [← hN]; exact hk))
  unfold rgv at HBo
  obtain ⟨st, hst⟩ : ∃ st : Nat → Int, st = fun k => (stp (fun j => l.getD j 0) Wn Hn k 8).1 := ⟨_, rfl⟩
  obtain ⟨S, hS0⟩ : ∃ S : Nat → Bool, S = srcB (fun j => l.getD j 0) Wn Hn := ⟨_, rfl⟩
  have HSd := hidA (show ∀ k, S k = (decide (st k ≠ -1) || brd Wn Hn k) from fun k => by rw [hS0, hst]; exact src_dir)
  have HSe := hidA hS0
  have HDc := hidA (show ∀ k, k < N → ∀ w', Ext w w' → w'.cell? ⟨gd, k, none⟩ = some (.int .i64 (st k)) from fun k hk w' hx => by rw [(hD.ext hx).cell, hst]; exact intB_get _ hk)
  clear hN hl hh hR hD hrg hst hS0
  obtain ⟨i0, hi0, hz0, hz1, hz2⟩ := info_parts (e := 3) infoIntW
  obtain ⟨w1, hw1⟩ : ∃ w1, w1 = ((((w.alloc (.cells #[.int .i64 X, .int .i64 Y, .int .i64 (Wn : Int), .int .i64 (Hn : Int), .slice A N c] 26)).alloc (.cells #[.slice (some ⟨gd, 0, none⟩) N N] 32)).alloc (.cells (intB N fun _ => 0) 3)).alloc (.cells #[.slice (some ⟨w.heap.size + 1 + 1, 0, none⟩) N N] 32)).alloc (.cells #[.slice none 0 0] 32) := ⟨_, rfl⟩
  have hS : RN w w1 w.heap.size (w.heap.size + 1 + 1 + 1) (w.heap.size + 1) (w.heap.size + 1 + 1 + 1 + 1) (w.heap.size + 1 + 1) X Y Wn Hn N A c (some ⟨gd, 0, none⟩) N (fun _ => 0) [] none 0 := by
    rw [hw1]
    refine ⟨?_, ?_, ?_, ?_, ?_, Qs.nil _ _ _, by simp, ?_, by omega, by omega, by omega, by omega⟩
    · exact ((((Bk.new' rfl).alloc _).alloc _).alloc _).alloc _
    · exact (Bk.new' (by simp)).alloc _
    · exact (((Bk.new' (by simp)).alloc _).alloc _).alloc _
    · exact ((Bk.new' (by simp)).alloc _).alloc _
    · exact Bk.new' (by simp)
    · exact (((((Ext.refl w).alloc _).alloc _).alloc _).alloc _).alloc _
  go_enter Try.func43, Try.ntmps43
  have f4' := (show Bk (w.alloc (.cells #[.slice (some ⟨gd, 0, none⟩) N N] 32)) w.heap.size 32 #[.slice (some ⟨gd, 0, none⟩) N N] from Bk.new' rfl).cell 0
  go_upto_region 4 with fail
  rw [← hw1]
  clear hw1 mi f4'
  have hgr : w.heap.size ≤ w.heap.size + 1 + 1 := by omega
  have hfl : w.heap.size < w1.heap.size := hS.fb.lt
  generalize w.heap.size + 1 + 1 + 1 + 1 = hq at *
  generalize w.heap.size + 1 + 1 + 1 = hr at *
  generalize w.heap.size + 1 + 1 = gr at *
  generalize w.heap.size + 1 = hd at *
  generalize hhf : w.heap.size = hf at hS ⊢
  have Hhf := hidA hhf
  clear hhf
  go_loopw [15] (fun s15 wr => ∃ (k : Nat) (o : Nat → Int) (L : List Nat) (Q : Option Addr) (cap : Nat), k ≤ N ∧ s15 = .int .i64 k ∧ RN w wr hf hr hd hq gr X Y Wn Hn N A c (some ⟨gd, 0, none⟩) N o L Q cap ∧ (∀ j, j < k → o j = if S j = true then 0 else (N : Int)) ∧ (∀ j, k ≤ j → j < N → o j = 0) ∧ (∀ j, j ∈ L ↔ j < k ∧ S j = true) ∧ L.length ≤ k) (fun s15 _ => N - (intOf s15).toNat)
  case atStart => exact ⟨0, _, [], none, 0, Nat.zero_le _, rfl, hS, fun j h => by omega, fun _ _ _ => rfl, fun j => by simp, by simp⟩
  case round =>
    clear hS
    obtain ⟨k, o, L, Q, cap, hk, rfl, hS, hY, hZ, hM, hLl⟩ := hrel
    have HY0 := hidA hY
    have HZ := hidA hZ
    have HM0 := hidA hM
    clear hY hZ hM
    by_cases hkN : k < N
    · have i1 : (0 : Int) ≤ k := by omega
      have i2 : (k : Int) < N := by omega
      have q0 := HDc.out k hkN _ hS.ext
      have HZ2 := hidA (show ∀ j, k + 1 ≤ j → j < N → o j = 0 from fun j h h2 => HZ.out j (by omega) h2)
      have hok := HZ.out k (Nat.le_refl _) hkN
      have HBk := fun w => HBo k w hkN
      have hSk := HSd.out k
      have b0 := hS.fb.cell 0
      have b1 := hS.fb.cell 1
      have b2 := hS.fb.cell 2
      have b3 := hS.fb.cell 3
      by_cases hb : S k = true
      · have HY := hidA (show ∀ j, j < k + 1 → o j = if S j = true then 0 else (N : Int) from fun j hj => by
          by_cases e : j = k
          · subst e
            rw [hok, if_pos hb]
          · exact HY0.out j (by omega))
        have HM := hidA (show ∀ j, j ∈ L ++ [k] ↔ j < k + 1 ∧ S j = true from fun j => by
          rw [List.mem_append, HM0.out j, List.mem_singleton]
          constructor
          · rintro (⟨h1, h2⟩ | rfl)
            · exact ⟨by omega, h2⟩
            · exact ⟨by omega, hb⟩
          · rintro ⟨h1, h2⟩
            rcases Nat.lt_or_ge j k with h | h
            · exact .inl ⟨h, h2⟩
            · right; omega)
        rw [hb] at hSk
        by_cases hd1 : st k = -1
        · have hbr : brd Wn Hn k = true := by simpa [hd1] using hSk.symm
          rw [hd1] at q0
          have HBr := hidA hbr
          clear hSk hd1 hb hbr hok
          go_upto_region 7 with (go_at_call 36; refine ((HBk _).out).mono ?_; rintro e w5 ⟨rfl, hx5⟩; rw [HBr.out])
          have hS5 := hS.step hx5
          clear b0 b1 b2 b3 q0 hS hx5
          have hs5 := hS5.ext.size
          have hA3 := hidA ((hS5.step ((Ext.refl _).alloc (.cells #[.int .i64 (k : Int)] 3))).qs)
          have hC3 := hidA (show (w5.alloc (.cells #[.int .i64 (k : Int)] 3)).cell? ⟨w5.heap.size, 0, none⟩ = some (.int .i64 (k : Int)) from by rw [cell_new_row]; rfl)
          have hS3 := hidA (show w.heap.size ≤ (w5.alloc (.cells #[.int .i64 (k : Int)] 3)).heap.size from by simp; omega)
          have hQ3 := hidA (hS5.step ((Ext.refl _).alloc (.cells #[.int .i64 (k : Int)] 3)))
          have c0 := hS5.qb.cell 0
          have hqn := hidA (hQ3.out.qs.ne hQ3.out.qb (by decide))
          go_wp2_with (at_builtin; (refine wpList_append_q _ (by rfl) _ _ 32 (by rfl) w.heap.size 3 i0 (.int .i64 0) 8 Try.underlying32 hi0 hz0 hz1 hz2 rfl Q L.length cap (inq L) (by rfl) hA3.out hS3.out ⟨w5.heap.size, 0, none⟩ 1 (.int .i64 (k : Int)) (by rfl) hC3.out rfl (by unfold maxLen; omega) (by omega) ?_; intro Q' cap' w4 hq4 hg4 ho4; have k0 := (hQ3.out.qb.grown hg4 hqn.out).cell 0; have k1 := (hQ3.out.qb.grown hg4 hqn.out).frozen 0))
          have hS6 := hQ3.out.app hq4 hg4 ho4
          go_wp2_with fail
          go_roundw
          case rel => exact ⟨k + 1, o, L ++ [k], Q', cap', by omega, by go_num, hS6, HY.out, HZ2.out, HM.out, by simp; omega⟩
          case measure => simp [intOf]; omega
        · have hne : (st k != -1) = true := by simpa using hd1
          have hn2 : ¬ st k = -1 := hd1
          clear hSk hd1 hb hok
          generalize st k = z at q0 hne hn2
          go_upto_region 7 with fail
          clear b0 b1 b2 b3 q0
          have hS5 := hS
          clear hS
          have hs5 := hS5.ext.size
          have hA3 := hidA ((hS5.step ((Ext.refl _).alloc (.cells #[.int .i64 (k : Int)] 3))).qs)
          have hC3 := hidA (show (wr.alloc (.cells #[.int .i64 (k : Int)] 3)).cell? ⟨wr.heap.size, 0, none⟩ = some (.int .i64 (k : Int)) from by rw [cell_new_row]; rfl)
          have hS3 := hidA (show w.heap.size ≤ (wr.alloc (.cells #[.int .i64 (k : Int)] 3)).heap.size from by simp; omega)
          have hQ3 := hidA (hS5.step ((Ext.refl _).alloc (.cells #[.int .i64 (k : Int)] 3)))
          have c0 := hS5.qb.cell 0
          have hqn := hidA (hQ3.out.qs.ne hQ3.out.qb (by decide))
          go_wp2_with (at_builtin; (refine wpList_append_q _ (by rfl) _ _ 32 (by rfl) w.heap.size 3 i0 (.int .i64 0) 8 Try.underlying32 hi0 hz0 hz1 hz2 rfl Q L.length cap (inq L) (by rfl) hA3.out hS3.out ⟨wr.heap.size, 0, none⟩ 1 (.int .i64 (k : Int)) (by rfl) hC3.out rfl (by unfold maxLen; omega) (by omega) ?_; intro Q' cap' w4 hq4 hg4 ho4; have k0 := (hQ3.out.qb.grown hg4 hqn.out).cell 0; have k1 := (hQ3.out.qb.grown hg4 hqn.out).frozen 0))
          have hS6 := hQ3.out.app hq4 hg4 ho4
          go_wp2_with fail
          go_roundw
          case rel => exact ⟨k + 1, o, L ++ [k], Q', cap', by omega, by go_num, hS6, HY.out, HZ2.out, HM.out, by simp; omega⟩
          case measure => simp [intOf]; omega
      · have hb' : S k = false := by simpa using hb
        rw [hb'] at hSk
        have hd1 : st k = -1 := by
          by_cases h : st k = -1
          · exact h
          · simp [h] at hSk
        have hbr : brd Wn Hn k = false := by simpa [hd1] using hSk.symm
        have HY := hidA (show ∀ j, j < k + 1 → updF o k (N : Int) j = if S j = true then 0 else (N : Int) from fun j hj => by
          by_cases e : j = k
          · subst e
            rw [updF_same, if_neg hb]
          · rw [updF_ne _ _ e]
            exact HY0.out j (by omega))
        have HZ3 := hidA (show ∀ j, k + 1 ≤ j → j < N → updF o k (N : Int) j = 0 from fun j h h2 => by
          rw [updF_ne _ _ (by omega)]
          exact HZ.out j (by omega) h2)
        have HM := hidA (show ∀ j, j ∈ L ↔ j < k + 1 ∧ S j = true from fun j => by
          rw [HM0.out j]
          constructor
          · rintro ⟨h1, h2⟩
            exact ⟨by omega, h2⟩
          · rintro ⟨h1, h2⟩
            refine ⟨?_, h2⟩
            rcases Nat.lt_or_ge j k with h | h
            · exact h
            · have e : j = k := by omega
              rw [e, hb'] at h2
              cases h2)
        rw [hd1] at q0
        have HBr := hidA hbr
        clear hSk hd1 hb hb' hbr hok
        go_upto_region 8 with (go_at_call 36; refine ((HBk _).out).mono ?_; rintro e w5 ⟨rfl, hx5⟩; rw [HBr.out])
        have hS5 := hS.step hx5
        clear b0 b1 b2 b3 q0 hS hx5
        have r0 := hS5.rb.cell 0
        have d0 := hS5.db.cell 0
        have g0 := hS5.gb.cell k
        rw [intB_get _ hkN] at g0
        have g1 := hS5.gb.frozen k
        have hS6 := hS5.put k (N : Int)
        go_wp2_with fail
        go_roundw
        case rel => exact ⟨k + 1, _, L, Q, cap, by omega, by go_num, hS6, HY.out, HZ3.out, HM.out, by omega⟩
        case measure => simp [intOf]; omega
    · obtain rfl : N = k := by omega
      have hBQ := BQ.init (o := o) (L := L) HR.out (fun k hk => by rw [← HSe.out]; exact HY0.out k hk) (fun k => by rw [← HSe.out]; exact HM0.out k)
      clear HY0 HZ HM0
      have Hg0 := hidA (show left N (fun k => decide (o k ≠ (N : Int))) + L.length ≤ 2 * N from by have := left_le N (fun k => decide (o k ≠ (N : Int))); omega)
      have HS0 := hidA hS
      have HBQ := hidA hBQ
      clear hS hBQ
      go_wp2_with fail
      go_loopg [38] (2 * N) (fun gk s38 wr => ∃ (o : Nat → Int) (L : List Nat) (Q : Option Addr) (cap : Nat), RN w wr hf hr hd hq gr X Y Wn Hn N A c (some ⟨gd, 0, none⟩) N o L Q cap ∧ BQ Wn Hn N (fun k => valI (l.getD k 0)) K o L none ∧ left N (fun k => decide (o k ≠ (N : Int))) + L.length ≤ gk ∧ left N (fun k => decide (o k ≠ (N : Int))) + L.length ≤ 2 * N ∧ s38 = s38)
      case atStart => exact ⟨_, _, _, _, HS0.out, HBQ.out, Hg0.out, Hg0.out, rfl⟩
      case round =>
        clear HS0 HBQ Hg0
        obtain ⟨o, L, Q, cap, hS, hB, hg, hg2, _⟩ := hrel
        have HB := hidA hB
        have Hg := hidA hg
        have Hg2 := hidA hg2
        clear hB hg hg2
        cases L with
        | nil =>
          have q0 : wr.cell? ⟨hq, 0, none⟩ = some (.slice Q 0 cap) := hS.qb.cell 0
          have r0 := hS.rb.cell 0
          have Hend := hidA (show Bk wr gr 3 (intB N K) from by
            have h := BQ.fin HR.out Hrg.out.w1 HN.out HB.out
            have e : intB N o = intB N K := by unfold intB; congr 1; refine List.map_congr_left fun k hk => ?_; rw [h k (List.mem_range.1 hk)]
            rw [← e]
            exact hS.gb)
          go_wp2
          go_ret
          exact ⟨gr, rfl, Hend.out, hgr, hS.ext⟩
        | cons p M =>
          have q0 : wr.cell? ⟨hq, 0, none⟩ = some (.slice Q (M.length + 1) cap) := hS.qb.cell 0
          obtain ⟨ad, rfl, hbk, hcv⟩ := hS.qs.rd.at (k := 0) (by simp [inq])
          have h0 : wr.cell? (ad.add 0) = some (.int .i64 (p : Int)) := hcv 0 _ rfl
          have h0' : wr.cell? ad = some (.int .i64 (p : Int)) := by simpa [Addr.add] using h0
          clear hcv
          have HS := hidA hS
          clear hS
          have hlp : (0 : Int) < ((M.length + 1 : Nat) : Int) := by omega
          go_upto_region 12 with fail
          have hkb : Bk (wr.alloc (.cells #[.int .i64 (p : Int)] 3)) wr.heap.size 3 #[.int .i64 (p : Int)] := Bk.new' rfl
          have hkq : some wr.heap.size ≠ (some ad : Option Addr).map (·.block) := by
            intro e
            simp only [Option.map_some, Option.some.injEq] at e
            omega
          have hkg : wr.heap.size ≠ gr := by have := HS.out.gb.lt; omega
          have hS5 := HS.out.step ((Ext.refl wr).alloc (.cells #[.int .i64 (p : Int)] 3))
          generalize wr.alloc (.cells #[.int .i64 (p : Int)] 3) = w5 at *
          generalize wr.heap.size = hk at *
          have q5 : w5.cell? ⟨hq, 0, none⟩ = some (.slice (some ad) (M.length + 1) cap) := hS5.qb.cell 0
          have q5f := hS5.qb.frozen 0
          obtain ⟨Q', e1, e3, hS6⟩ := hS5.cut
          have hcap : 1 ≤ cap := by have := hS5.qs.le; simp at this; omega
          have hkb6 := hkb.far (p := ⟨hq, 0, none⟩) (Bk.ne hkb hS5.qb (by decide)) (.slice Q' M.length (cap - 1))
          have e1' : (.slice (if cap = 1 then some ad else some ⟨ad.block, ad.off + 1, none⟩) M.length (cap - 1) : Value) = .slice Q' M.length (cap - 1) := by rw [← e1]; unfold sliced; split <;> simp [add_pos]
          injection e1' with e2
          clear q0 h0 h0' hbk e1 hS5 hkb
          rcases Classical.em (cap = 1) with hc | hc
          all_goals
            first | rw [if_pos hc] at e2 | rw [if_neg hc] at e2
            subst e2
            try rw [show cap - 1 = 0 by omega] at hS6 hkb6
            go_upto_region 13 with fail
            try simp only [if_pos hc]
            try simp only [if_neg hc]
            have hRM := hS6.join hkb6 (by rw [e3]; exact hkq) hkg
            generalize w5.setCell ⟨hq, 0, none⟩ (.slice _ M.length _) = w6 at *
            clear q5 q5f hS6 hkb6 e3 hkq hkg
            have c0 := hRM.fb.cell 0
            have c1 := hRM.fb.cell 1
            have c2 := hRM.fb.cell 2
            have c3 := hRM.fb.cell 3
            have k0 := hRM.kb.cell 0
            have hpL := (HB.out.inL p (by simp)).1
            have HI := hidA (nbs_any 52 #[.pointer (some ⟨hf, 0, none⟩), .pointer (some ⟨hk, 0, none⟩), .pointer (some ⟨hr, 0, none⟩), .pointer (some ⟨hd, 0, none⟩), .pointer (some ⟨hq, 0, none⟩)] enters_ranks X Y Wn Hn p Hrg.out (by rw [← HN.out]; exact hpL)
              (fun d w' => ∃ (o : Nat → Int) (L : List Nat) (Q : Option Addr) (cap : Nat), RM w w' hf hk hr hd hq gr X Y Wn Hn N A c (some ⟨gd, 0, none⟩) N p o L Q cap ∧ BQ Wn Hn N (fun k => valI (l.getD k 0)) K o L (some (p, d)) ∧ left N (fun k => decide (o k ≠ (N : Int))) + L.length + 1 ≤ gk ∧ left N (fun k => decide (o k ≠ (N : Int))) + L.length ≤ 2 * N)
              (fun d wa wb ⟨o, L, Q, cap, h1, h2, h3, h4⟩ hx => ⟨o, L, Q, cap, h1.step hx, h2, h3, h4⟩)
              (fun d n wa hd8 hnb ⟨o, L, Q, cap, h1, h2, h3, h4⟩ => by
                have hnN : n < N := by rw [HN.out]; exact nbr_lt hnb
                have hop := (h2.cur1 p d rfl).2.1
                have hKp := HR.out.pos p hpL
                refine (ranks1_any w wa hf hk hr hd hq gr X Y Wn Hn N A c _ N p o L Q cap l n d h1 Hl.out hV hpL hnN (by omega) (Hh.out p hpL) (Hh.out n hnN) (by omega) (by omega)).mono ?_
                rintro e wb ⟨rfl, hreg, Q', cap', ⟨hv, hon, h5⟩ | ⟨hno, h5⟩⟩
                · obtain ⟨hKn, h6⟩ := h2.push HR.out Hrg.out.w1 HN.out hd8 hnb hv hon
                  have hKn2 := (HR.out.pos n hnN).2
                  have e : (fun k => decide (updF o n (o p + 1) k ≠ (N : Int))) = updF (fun k => decide (o k ≠ (N : Int))) n true := by
                    funext k
                    by_cases hk' : k = n
                    · subst hk'
                      rw [updF_same, updF_same]
                      simp
                      omega
                    · rw [updF_ne _ _ hk', updF_ne _ _ hk']
                  have hlu := left_upd (done := fun k => decide (o k ≠ (N : Int))) hnN (show (fun k => decide (o k ≠ (N : Int))) n = false from by simp [hon])
                  refine ⟨rfl, ⟨_, _, Q', cap', h5, h6, ?_, ?_⟩, hreg⟩
                  · rw [e]
                    simp only [List.length_append, List.length_singleton]
                    omega
                  · rw [e]
                    simp only [List.length_append, List.length_singleton]
                    omega
                · refine ⟨rfl, ⟨o, L, Q', cap', h5, h2.skip (fun m hm hv => ?_), h3, h4⟩, hreg⟩
                  rw [hnb] at hm
                  cases hm
                  exact fun h => hno ⟨hv, h⟩)
              (fun d wa hd8 hnb ⟨o, L, Q, cap, h1, h2, h3, h4⟩ => ⟨o, L, Q, cap, h1, h2.skip (fun m hm _ => by rw [hnb] at hm; cases hm), h3, h4⟩)
              w6 ⟨o, M, _, _, hRM, HB.out.take, by have := Hg.out; simp only [List.length_cons] at this; omega, by have := Hg2.out; simp only [List.length_cons] at this; omega⟩)
            unfold rgv at HI
            clear hRM
            go_wp2_with (go_at_call 39; refine HI.out.mono ?_; rintro e w9 ⟨rfl, o9, L9, Q9, cap9, hF9, hB9, hg9, hl9⟩)
            have HF9 := hidA (RM.less hF9)
            have HB9 := hidA hB9.all
            have Hg9 := hidA hg9
            have Hl9 := hidA hl9
            clear hF9 hB9 hg9 hl9 c0 c1 c2 c3 k0
            go_wp2_with fail
            go_roundg (left N (fun k => decide (o9 k ≠ (N : Int))) + L9.length)
            case measure => have := Hg9.out; omega
            case rel => exact ⟨_, _, _, _, HF9.out, HB9.out, Nat.le_refl _, Hl9.out, trivial⟩
end Go.Proofs.Ytepgfplbkmhgbaa

namespace Go.Proofs.Ytepgfplbkmhgbaa
open Go.RowKit

/-- the least so far, as the program keeps it -/
def lstZ (N : Nat) (b : Int) : Int := if b < 0 then (N : Int) + 1 else b
theorem bst_take {v : Nat → Nat} {R : Nat → Int} {Wn Hn k d m N : Nat} (h : nbr Wn Hn k d = some m) (h0 : 0 ≤ R m) (hv : valI (v m) = valI (v k)) (hz : R m < lstZ N (bstD v R Wn Hn k d).1) : bstD v R Wn Hn k (d + 1) = (R m, (d : Int)) := by
  rw [bst_some h, if_pos]
  refine ⟨hv, h0, ?_⟩
  unfold lstZ at hz
  split at hz
  · exact .inl ‹_›
  · exact .inr hz
theorem bst_keep {v : Nat → Nat} {R : Nat → Int} {Wn Hn k d m N : Nat} (h : nbr Wn Hn k d = some m) (hN : R m < N) (hz : ¬ (valI (v m) = valI (v k) ∧ R m < lstZ N (bstD v R Wn Hn k d).1)) : bstD v R Wn Hn k (d + 1) = bstD v R Wn Hn k d := by
  rw [bst_some h, if_neg]
  rintro ⟨hv, h0, h1⟩
  refine hz ⟨hv, ?_⟩
  unfold lstZ
  split
  · omega
  · rcases h1 with h1 | h1
    · omega
    · exact h1
theorem bst_none {v : Nat → Nat} {R : Nat → Int} {Wn Hn k d : Nat} (h : nbr Wn Hn k d = none) : bstD v R Wn Hn k (d + 1) = bstD v R Wn Hn k d := by simp [bstD, h]
theorem lst_nonneg {N : Nat} {b : Int} (h : 0 ≤ b) : lstZ N b = b := if_neg (by omega)
end Go.Proofs.Ytepgfplbkmhgbaa

namespace Go.Proofs.Ytepgfplbkmhgbaa
open Go.RowKit

/-- what drain holds between the cells: the filled field, the ranks, the directions -/
structure DN (W0 w : World) (hf hr hd gr gd : Nat) (X Y : Int) (Wn Hn N : Nat) (A : Option Addr) (c : Nat) (R I : Nat → Int) : Prop where
  fb : Bk w hf 26 #[.int .i64 X, .int .i64 Y, .int .i64 (Wn : Int), .int .i64 (Hn : Int), .slice A N c]
  rb : Bk w hr 32 #[.slice (some ⟨gr, 0, none⟩) N N]
  db : Bk w hd 32 #[.slice (some ⟨gd, 0, none⟩) N N]
  gb : Bk w gr 3 (intB N R)
  ib : Bk w gd 3 (intB N I)
  ext : Ext W0 w
  b2 : W0.heap.size ≤ gd
  n4 : gr ≠ gd
section
variable {W0 w : World} {hf hr hd gr gd : Nat} {X Y : Int} {Wn Hn N : Nat} {A : Option Addr} {c : Nat} {R I : Nat → Int}
theorem DN.step (h : DN W0 w hf hr hd gr gd X Y Wn Hn N A c R I) {w' : World} (hx : Ext w w') : DN W0 w' hf hr hd gr gd X Y Wn Hn N A c R I :=
  ⟨h.fb.ext hx, h.rb.ext hx, h.db.ext hx, h.gb.ext hx, h.ib.ext hx, h.ext.trans hx, h.b2, h.n4⟩
theorem DN.more (h : DN W0 w hf hr hd gr gd X Y Wn Hn N A c R I) {hk hl k : Nat} {z : Int} {w' : World} (hx : Ext w w') (h1 : w.heap.size ≤ hk) (h2 : w.heap.size ≤ hl) (h3 : hk ≠ hl) (hK : Bk w' hk 3 #[.int .i64 (k : Int)]) (hL : Bk w' hl 3 #[.int .i64 z]) : XM W0 w' hf hk hr hl hd gr gd X Y Wn Hn N A c k R I z := by
  have g1 := h.gb.lt
  have g2 := h.ib.lt
  have g3 := h.ext.size
  have h' := h.step hx
  exact ⟨h'.fb, hK, h'.rb, hL, h'.db, h'.gb, h'.ib, h'.ext, by omega, h.b2, h3, by omega, by omega, h.n4, by omega⟩
theorem XM.less {hk hl k : Nat} {z : Int} (h : XM W0 w hf hk hr hl hd gr gd X Y Wn Hn N A c k R I z) : DN W0 w hf hr hd gr gd X Y Wn Hn N A c R I :=
  ⟨h.fb, h.rb, h.db, h.gb, h.ib, h.ext, h.b2, h.n4⟩
end
/-- the directions, when the first k cells are done -/
structure DK (v : Nat → Nat) (R : Nat → Int) (Wn Hn N k : Nat) (I : Nat → Int) : Prop where
  done : ∀ j, j < k → I j = drnV v R Wn Hn j
  rest : ∀ j, k ≤ j → j < N → I j = (stp v Wn Hn j 8).1
section
variable {v : Nat → Nat} {R I : Nat → Int} {Wn Hn N k : Nat}
theorem DK.skip (h : DK v R Wn Hn N k I) (hk : k < N) (hs : (stp v Wn Hn k 8).1 ≠ -1 ∨ brd Wn Hn k = true) : DK v R Wn Hn N (k + 1) I := by
  refine ⟨fun j hj => ?_, fun j h1 h2 => h.rest j (by omega) h2⟩
  by_cases e : j = k
  · subst e
    rw [h.rest j (Nat.le_refl _) hk]
    unfold drnV
    split
    · rfl
    · rename_i hn
      have h3 := stp_neg (v := v) (Wn := Wn) (Hn := Hn) (k := j) 8 (by omega)
      have h4 : (stp v Wn Hn j 8).1 = -1 := by rw [h3]
      rcases hs with hs | hs
      · exact absurd h4 hs
      · rw [if_pos hs, h4]
  · exact h.done j (by omega)
/-- within a cell: what the neighbours up to d have brought -/
structure DD (v : Nat → Nat) (R : Nat → Int) (Wn Hn N k d : Nat) (I : Nat → Int) : Prop where
  done : ∀ j, j < k → I j = drnV v R Wn Hn j
  here : I k = (bstD v R Wn Hn k d).2
  rest : ∀ j, k + 1 ≤ j → j < N → I j = (stp v Wn Hn j 8).1
theorem DK.into (h : DK v R Wn Hn N k I) (hk : k < N) (hs : (stp v Wn Hn k 8).1 = -1) : DD v R Wn Hn N k 0 I :=
  ⟨h.done, by rw [h.rest k (Nat.le_refl _) hk, hs]; rfl, fun j h1 h2 => h.rest j (by omega) h2⟩
theorem DD.out (h : DD v R Wn Hn N k 8 I) (hs : (stp v Wn Hn k 8).1 = -1) (hb : brd Wn Hn k = false) : DK v R Wn Hn N (k + 1) I := by
  refine ⟨fun j hj => ?_, h.rest⟩
  by_cases e : j = k
  · subst e
    rw [h.here]
    unfold drnV
    rw [if_neg (by omega), if_neg (by rw [hb]; decide)]
  · exact h.done j (by omega)
theorem DD.none {d : Nat} (h : DD v R Wn Hn N k d I) (hn : nbr Wn Hn k d = none) : DD v R Wn Hn N k (d + 1) I :=
  ⟨h.done, by rw [h.here, bst_none hn], h.rest⟩
theorem DD.same {d n : Nat} (h : DD v R Wn Hn N k d I) (hn : nbr Wn Hn k d = some n) (hN : R n < N) (hz : ¬ (valI (v n) = valI (v k) ∧ R n < lstZ N (bstD v R Wn Hn k d).1)) : DD v R Wn Hn N k (d + 1) I :=
  ⟨h.done, by rw [h.here, bst_keep hn hN hz], h.rest⟩
theorem DD.take {d n : Nat} (h : DD v R Wn Hn N k d I) (hn : nbr Wn Hn k d = some n) (h0 : 0 ≤ R n) (hv : valI (v n) = valI (v k)) (hz : R n < lstZ N (bstD v R Wn Hn k d).1) : DD v R Wn Hn N k (d + 1) (updF I k (d : Int)) := by
  refine ⟨fun j hj => ?_, ?_, fun j h1 h2 => ?_⟩
  · rw [updF_ne _ _ (by omega)]
    exact h.done j hj
  · rw [updF_same, bst_take hn h0 hv hz]
  · rw [updF_ne _ _ (by omega)]
    exact h.rest j h1 h2
end
end Go.Proofs.Ytepgfplbkmhgbaa
