/- Contract: tarnref2.FilledOf: the least spills. -/
import Derived.Test.YtinohfgokpbcdaaDsAL
import Derived.Test.YtinohfgokpbcdaaDsAH
import Derived.Test.YtinohfgokpbcdaaDsAF
import Derived.LoopTactic
namespace Go.Proofs.Ytinohfgokpbcdaa
open Go.RowKit
attribute [local go_sem ↓] Go.wp_at_zero Go.wp_at_succ
attribute [local go_sem] run_store_float

theorem enters_ranks : ∀ args w, (callFunc 163 args).run Try.prog w = .ok (.enter 163 args) w := enters_of Try.func163 (by kernel_rfl) rfl
theorem src_dir {v : Nat → Nat} {Wn Hn k : Nat} : srcB v Wn Hn k = (decide ((stp v Wn Hn k 8).1 ≠ -1) || brd Wn Hn k) := by
  unfold srcB
  congr 1
  rw [decide_eq_decide]
  constructor
  · intro h; omega
  · intro h
    rcases Int.lt_or_le (stp v Wn Hn k 8).1 0 with h2 | h2
    · rw [stp_neg 8 h2] at h
      exact absurd rfl h
    · exact h2
set_option maxRecDepth 100000 in
set_option maxHeartbeats 6400000 in
theorem ranks_any (X Y : Int) (Wn Hn N : Nat) (A : Option Addr) (c gd : Nat) (l : List Nat) (w : World) (K : Nat → Int) (hrg : Reg X Y Wn Hn) (hN : N = Wn * Hn) (hl : l.length = N) (hV : Rd w A (flt l)) (hh : ∀ j, j < N → Bd 20 (l.getD j 0)) (hR : Rk Wn Hn N (fun k => valI (l.getD k 0)) (srcB (fun j => l.getD j 0) Wn Hn) K)
    (hD : Bk w gd 3 (intB N fun k => (stp (fun j => l.getD j 0) Wn Hn k 8).1)) :
    Calls Try.prog 153 #[.agg #[.int .i64 X, .int .i64 Y, .int .i64 (Wn : Int), .int .i64 (Hn : Int), .slice A N c], .slice (some ⟨gd, 0, none⟩) N N] w fun e w' => ∃ gr, e = .returned (.slice (some ⟨gr, 0, none⟩) N N) ∧ Bk w' gr 3 (intB N K) ∧ w.heap.size ≤ gr ∧ Ext w w' := by
  have hN6 : N ≤ 65536 := by rw [hN]; exact hrg.n
  have mi := mk_int N (by omega)
  have dl := hD.lt
  have HN := hidA hN
  have Hl := hidA hl
  have Hh := hidA hh
  have HR := hidA hR
  have Hrg := hidA hrg
  have HBo := fun (k : Nat) (w : World) (hk : k < N) => hidA (border_any X Y Wn Hn k w hrg (by rw [← hN]; exact hk))
  unfold rgv at HBo
  obtain ⟨st, hst⟩ : ∃ st : Nat → Int, st = fun k => (stp (fun j => l.getD j 0) Wn Hn k 8).1 := ⟨_, rfl⟩
  obtain ⟨S, hS0⟩ : ∃ S : Nat → Bool, S = srcB (fun j => l.getD j 0) Wn Hn := ⟨_, rfl⟩
  have HSd := hidA (show ∀ k, S k = (decide (st k ≠ -1) || brd Wn Hn k) from fun k => by rw [hS0, hst]; exact src_dir)
  have HSe := hidA hS0
  have HDc := hidA (show ∀ k, k < N → ∀ w', Ext w w' → w'.cell? ⟨gd, k, none⟩ = some (.int .i64 (st k)) from fun k hk w' hx => by rw [(hD.ext hx).cell, hst]; exact intB_get _ hk)
  clear hN hl hh hR hD hrg hst hS0
  obtain ⟨i0, hi0, hz0, hz1, hz2⟩ := info_parts (e := 3) infoIntW
  obtain ⟨w1, hw1⟩ : ∃ w1, w1 = ((((w.alloc (.cells #[.int .i64 X, .int .i64 Y, .int .i64 (Wn : Int), .int .i64 (Hn : Int), .slice A N c] 26)).alloc (.cells #[.slice (some ⟨gd, 0, none⟩) N N] 41)).alloc (.cells (intB N fun _ => 0) 3)).alloc (.cells #[.slice (some ⟨w.heap.size + 1 + 1, 0, none⟩) N N] 41)).alloc (.cells #[.slice none 0 0] 41) := ⟨_, rfl⟩
  have hS : RN w w1 w.heap.size (w.heap.size + 1 + 1 + 1) (w.heap.size + 1) (w.heap.size + 1 + 1 + 1 + 1) (w.heap.size + 1 + 1) X Y Wn Hn N A c (some ⟨gd, 0, none⟩) N (fun _ => 0) [] none 0 := by
    rw [hw1]
    refine ⟨?_, ?_, ?_, ?_, ?_, Qs.nil _ _ _, by simp, ?_, by omega, by omega, by omega, by omega⟩
    · exact ((((Bk.new' rfl).alloc _).alloc _).alloc _).alloc _
    · exact (Bk.new' (by simp)).alloc _
    · exact (((Bk.new' (by simp)).alloc _).alloc _).alloc _
    · exact ((Bk.new' (by simp)).alloc _).alloc _
    · exact Bk.new' (by simp)
    · exact (((((Ext.refl w).alloc _).alloc _).alloc _).alloc _).alloc _
  go_enter Try.func153, Try.ntmps153
  have f4' := (show Bk (w.alloc (.cells #[.slice (some ⟨gd, 0, none⟩) N N] 41)) w.heap.size 41 #[.slice (some ⟨gd, 0, none⟩) N N] from Bk.new' rfl).cell 0
  go_upto_region 4 with fail
  rw [← hw1]
  clear hw1 mi f4'
  have hgr : w.heap.size ≤ w.heap.size + 1 + 1 := by omega
  have hfl : w.heap.size < w1.heap.size := hS.fb.lt
  generalize w.heap.size + 1 + 1 + 1 + 1 = hq at *
  generalize w.heap.size + 1 + 1 + 1 = hr at *
  generalize w.heap.size + 1 + 1 = gr at *
  generalize w.heap.size + 1 = hd at *
  generalize hhf : w.heap.size = hf at hS ⊢
  have Hhf := hidA hhf
  clear hhf
  go_loopw [15] (fun s15 wr => ∃ (k : Nat) (o : Nat → Int) (L : List Nat) (Q : Option Addr) (cap : Nat), k ≤ N ∧ s15 = .int .i64 k ∧ RN w wr hf hr hd hq gr X Y Wn Hn N A c (some ⟨gd, 0, none⟩) N o L Q cap ∧ (∀ j, j < k → o j = if S j = true then 0 else (N : Int)) ∧ (∀ j, k ≤ j → j < N → o j = 0) ∧ (∀ j, j ∈ L ↔ j < k ∧ S j = true) ∧ L.length ≤ k) (fun s15 _ => N - (intOf s15).toNat)
  case atStart => exact ⟨0, _, [], none, 0, Nat.zero_le _, rfl, hS, fun j h => by omega, fun _ _ _ => rfl, fun j => by simp, by simp⟩
  case round =>
    clear hS
    obtain ⟨k, o, L, Q, cap, hk, rfl, hS, hY, hZ, hM, hLl⟩ := hrel
    have HY0 := hidA hY
    have HZ := hidA hZ
    have HM0 := hidA hM
    clear hY hZ hM
    by_cases hkN : k < N
    · have i1 : (0 : Int) ≤ k := by omega
      have i2 : (k : Int) < N := by omega
      have q0 := HDc.out k hkN _ hS.ext
      have HZ2 := hidA (show ∀ j, k + 1 ≤ j → j < N → o j = 0 from fun j h h2 => HZ.out j (by omega) h2)
      have hok := HZ.out k (Nat.le_refl _) hkN
      have HBk := fun w => HBo k w hkN
      have hSk := HSd.out k
      have b0 := hS.fb.cell 0
      have b1 := hS.fb.cell 1
      have b2 := hS.fb.cell 2
      have b3 := hS.fb.cell 3
      by_cases hb : S k = true
      · have HY := hidA (show ∀ j, j < k + 1 → o j = if S j = true then 0 else (N : Int) from fun j hj => by
          by_cases e : j = k
          · subst e
            rw [hok, if_pos hb]
          · exact HY0.out j (by omega))
        have HM := hidA (show ∀ j, j ∈ L ++ [k] ↔ j < k + 1 ∧ S j = true from fun j => by
          rw [List.mem_append, HM0.out j, List.mem_singleton]
          constructor
          · rintro (⟨h1, h2⟩ | rfl)
            · exact ⟨by omega, h2⟩
            · exact ⟨by omega, hb⟩
          · rintro ⟨h1, h2⟩
            rcases Nat.lt_or_ge j k with h | h
            · exact .inl ⟨h, h2⟩
            · right; omega)
        rw [hb] at hSk
        by_cases hd1 : st k = -1
        · have hbr : brd Wn Hn k = true := by simpa [hd1] using hSk.symm
          rw [hd1] at q0
          have HBr := hidA hbr
          clear hSk hd1 hb hbr hok
          go_upto_region 7 with (go_at_call 131; refine ((HBk _).out).mono ?_; rintro e w5 ⟨rfl, hx5⟩; rw [HBr.out])
          have hS5 := hS.step hx5
          clear b0 b1 b2 b3 q0 hS hx5
          have hs5 := hS5.ext.size
          have hA3 := hidA ((hS5.step ((Ext.refl _).alloc (.cells #[.int .i64 (k : Int)] 3))).qs)
          have hC3 := hidA (show (w5.alloc (.cells #[.int .i64 (k : Int)] 3)).cell? ⟨w5.heap.size, 0, none⟩ = some (.int .i64 (k : Int)) from by rw [cell_new_row]; rfl)
          have hS3 := hidA (show w.heap.size ≤ (w5.alloc (.cells #[.int .i64 (k : Int)] 3)).heap.size from by simp; omega)
          have hQ3 := hidA (hS5.step ((Ext.refl _).alloc (.cells #[.int .i64 (k : Int)] 3)))
          have c0 := hS5.qb.cell 0
          have hqn := hidA (hQ3.out.qs.ne hQ3.out.qb (by decide))
          go_wp2_with (at_builtin; (refine wpList_append_q _ (by rfl) _ _ 41 (by rfl) w.heap.size 3 i0 (.int .i64 0) 8 Try.underlying41 hi0 hz0 hz1 hz2 rfl Q L.length cap (inq L) (by rfl) hA3.out hS3.out ⟨w5.heap.size, 0, none⟩ 1 (.int .i64 (k : Int)) (by rfl) hC3.out rfl (by unfold maxLen; omega) (by omega) ?_; intro Q' cap' w4 hq4 hg4 ho4; have k0 := (hQ3.out.qb.grown hg4 hqn.out).cell 0; have k1 := (hQ3.out.qb.grown hg4 hqn.out).frozen 0))
          have hS6 := hQ3.out.app hq4 hg4 ho4
          go_wp2_with fail
          go_roundw
          case rel => exact ⟨k + 1, o, L ++ [k], Q', cap', by omega, by go_num, hS6, HY.out, HZ2.out, HM.out, by simp; omega⟩
          case measure => simp [intOf]; omega
        · have hne : (st k != -1) = true := by simpa using hd1
          have hn2 : ¬ st k = -1 := hd1
          clear hSk hd1 hb hok
          generalize st k = z at q0 hne hn2
          go_upto_region 7 with fail
          clear b0 b1 b2 b3 q0
          have hS5 := hS
          clear hS
          have hs5 := hS5.ext.size
          have hA3 := hidA ((hS5.step ((Ext.refl _).alloc (.cells #[.int .i64 (k : Int)] 3))).qs)
          have hC3 := hidA (show (wr.alloc (.cells #[.int .i64 (k : Int)] 3)).cell? ⟨wr.heap.size, 0, none⟩ = some (.int .i64 (k : Int)) from by rw [cell_new_row]; rfl)
          have hS3 := hidA (show w.heap.size ≤ (wr.alloc (.cells #[.int .i64 (k : Int)] 3)).heap.size from by simp; omega)
          have hQ3 := hidA (hS5.step ((Ext.refl _).alloc (.cells #[.int .i64 (k : Int)] 3)))
          have c0 := hS5.qb.cell 0
          have hqn := hidA (hQ3.out.qs.ne hQ3.out.qb (by decide))
          go_wp2_with (at_builtin; (refine wpList_append_q _ (by rfl) _ _ 41 (by rfl) w.heap.size 3 i0 (.int .i64 0) 8 Try.underlying41 hi0 hz0 hz1 hz2 rfl Q L.length cap (inq L) (by rfl) hA3.out hS3.out ⟨wr.heap.size, 0, none⟩ 1 (.int .i64 (k : Int)) (by rfl) hC3.out rfl (by unfold maxLen; omega) (by omega) ?_; intro Q' cap' w4 hq4 hg4 ho4; have k0 := (hQ3.out.qb.grown hg4 hqn.out).cell 0; have k1 := (hQ3.out.qb.grown hg4 hqn.out).frozen 0))
          have hS6 := hQ3.out.app hq4 hg4 ho4
          go_wp2_with fail
          go_roundw
          case rel => exact ⟨k + 1, o, L ++ [k], Q', cap', by omega, by go_num, hS6, HY.out, HZ2.out, HM.out, by simp; omega⟩
          case measure => simp [intOf]; omega
      · have hb' : S k = false := by simpa using hb
        rw [hb'] at hSk
        have hd1 : st k = -1 := by
          by_cases h : st k = -1
          · exact h
          · simp [h] at hSk
        have hbr : brd Wn Hn k = false := by simpa [hd1] using hSk.symm
        have HY := hidA (show ∀ j, j < k + 1 → updF o k (N : Int) j = if S j = true then 0 else (N : Int) from fun j hj => by
          by_cases e : j = k
          · subst e
            rw [updF_same, if_neg hb]
          · rw [updF_ne _ _ e]
            exact HY0.out j (by omega))
        have HZ3 := hidA (show ∀ j, k + 1 ≤ j → j < N → updF o k (N : Int) j = 0 from fun j h h2 => by
          rw [updF_ne _ _ (by omega)]
          exact HZ.out j (by omega) h2)
        have HM := hidA (show ∀ j, j ∈ L ↔ j < k + 1 ∧ S j = true from fun j => by
          rw [HM0.out j]
          constructor
          · rintro ⟨h1, h2⟩
            exact ⟨by omega, h2⟩
          · rintro ⟨h1, h2⟩
            refine ⟨?_, h2⟩
            rcases Nat.lt_or_ge j k with h | h
            · exact h
            · have e : j = k := by omega
              rw [e, hb'] at h2
              cases h2)
        rw [hd1] at q0
        have HBr := hidA hbr
        clear hSk hd1 hb hb' hbr hok
        go_upto_region 8 with (go_at_call 131; refine ((HBk _).out).mono ?_; rintro e w5 ⟨rfl, hx5⟩; rw [HBr.out])
        have hS5 := hS.step hx5
        clear b0 b1 b2 b3 q0 hS hx5
        have r0 := hS5.rb.cell 0
        have d0 := hS5.db.cell 0
        have g0 := hS5.gb.cell k
        rw [intB_get _ hkN] at g0
        have g1 := hS5.gb.frozen k
        have hS6 := hS5.put k (N : Int)
        go_wp2_with fail
        go_roundw
        case rel => exact ⟨k + 1, _, L, Q, cap, by omega, by go_num, hS6, HY.out, HZ3.out, HM.out, by omega⟩
        case measure => simp [intOf]; omega
    · obtain rfl : N = k := by omega
      have hBQ := BQ.init (o := o) (L := L) HR.out (fun k hk => by rw [← HSe.out]; exact HY0.out k hk) (fun k => by rw [← HSe.out]; exact HM0.out k)
      clear HY0 HZ HM0
      have Hg0 := hidA (show left N (fun k => decide (o k ≠ (N : Int))) + L.length ≤ 2 * N from by have := left_le N (fun k => decide (o k ≠ (N : Int))); omega)
      have HS0 := hidA hS
      have HBQ := hidA hBQ
      clear hS hBQ
      go_wp2_with fail
      go_loopg [38] (2 * N) (fun gk s38 wr => ∃ (o : Nat → Int) (L : List Nat) (Q : Option Addr) (cap : Nat), RN w wr hf hr hd hq gr X Y Wn Hn N A c (some ⟨gd, 0, none⟩) N o L Q cap ∧ BQ Wn Hn N (fun k => valI (l.getD k 0)) K o L none ∧ left N (fun k => decide (o k ≠ (N : Int))) + L.length ≤ gk ∧ left N (fun k => decide (o k ≠ (N : Int))) + L.length ≤ 2 * N ∧ s38 = s38)
      case atStart => exact ⟨_, _, _, _, HS0.out, HBQ.out, Hg0.out, Hg0.out, rfl⟩
      case round =>
        clear HS0 HBQ Hg0
        obtain ⟨o, L, Q, cap, hS, hB, hg, hg2, _⟩ := hrel
        have HB := hidA hB
        have Hg := hidA hg
        have Hg2 := hidA hg2
        clear hB hg hg2
        cases L with
        | nil =>
          have q0 : wr.cell? ⟨hq, 0, none⟩ = some (.slice Q 0 cap) := hS.qb.cell 0
          have r0 := hS.rb.cell 0
          have Hend := hidA (show Bk wr gr 3 (intB N K) from by
            have h := BQ.fin HR.out Hrg.out.w1 HN.out HB.out
            have e : intB N o = intB N K := by unfold intB; congr 1; refine List.map_congr_left fun k hk => ?_; rw [h k (List.mem_range.1 hk)]
            rw [← e]
            exact hS.gb)
          go_wp2
          go_ret
          exact ⟨gr, rfl, Hend.out, hgr, hS.ext⟩
        | cons p M =>
          have q0 : wr.cell? ⟨hq, 0, none⟩ = some (.slice Q (M.length + 1) cap) := hS.qb.cell 0
          obtain ⟨ad, rfl, hbk, hcv⟩ := hS.qs.rd.at (k := 0) (by simp [inq])
          have h0 : wr.cell? (ad.add 0) = some (.int .i64 (p : Int)) := hcv 0 _ rfl
          have h0' : wr.cell? ad = some (.int .i64 (p : Int)) := by simpa [Addr.add] using h0
          clear hcv
          have HS := hidA hS
          clear hS
          have hlp : (0 : Int) < ((M.length + 1 : Nat) : Int) := by omega
          go_upto_region 12 with fail
          have hkb : Bk (wr.alloc (.cells #[.int .i64 (p : Int)] 3)) wr.heap.size 3 #[.int .i64 (p : Int)] := Bk.new' rfl
          have hkq : some wr.heap.size ≠ (some ad : Option Addr).map (·.block) := by
            intro e
            simp only [Option.map_some, Option.some.injEq] at e
            omega
          have hkg : wr.heap.size ≠ gr := by have := HS.out.gb.lt; omega
          have hS5 := HS.out.step ((Ext.refl wr).alloc (.cells #[.int .i64 (p : Int)] 3))
          generalize wr.alloc (.cells #[.int .i64 (p : Int)] 3) = w5 at *
          generalize wr.heap.size = hk at *
          have q5 : w5.cell? ⟨hq, 0, none⟩ = some (.slice (some ad) (M.length + 1) cap) := hS5.qb.cell 0
          have q5f := hS5.qb.frozen 0
          obtain ⟨Q', e1, e3, hS6⟩ := hS5.cut
          have hcap : 1 ≤ cap := by have := hS5.qs.le; simp at this; omega
          have hkb6 := hkb.far (p := ⟨hq, 0, none⟩) (Bk.ne hkb hS5.qb (by decide)) (.slice Q' M.length (cap - 1))
          have e1' : (.slice (if cap = 1 then some ad else some ⟨ad.block, ad.off + 1, none⟩) M.length (cap - 1) : Value) = .slice Q' M.length (cap - 1) := by rw [← e1]; unfold sliced; split <;> simp [add_pos]
          injection e1' with e2
          clear q0 h0 h0' hbk e1 hS5 hkb
          rcases Classical.em (cap = 1) with hc | hc
          all_goals
            first | rw [if_pos hc] at e2 | rw [if_neg hc] at e2
            subst e2
            try rw [show cap - 1 = 0 by omega] at hS6 hkb6
            go_upto_region 13 with fail
            try simp only [if_pos hc]
            try simp only [if_neg hc]
            have hRM := hS6.join hkb6 (by rw [e3]; exact hkq) hkg
            generalize w5.setCell ⟨hq, 0, none⟩ (.slice _ M.length _) = w6 at *
            clear q5 q5f hS6 hkb6 e3 hkq hkg
            have c0 := hRM.fb.cell 0
            have c1 := hRM.fb.cell 1
            have c2 := hRM.fb.cell 2
            have c3 := hRM.fb.cell 3
            have k0 := hRM.kb.cell 0
            have hpL := (HB.out.inL p (by simp)).1
            have HI := hidA (nbs_any 163 #[.pointer (some ⟨hf, 0, none⟩), .pointer (some ⟨hk, 0, none⟩), .pointer (some ⟨hr, 0, none⟩), .pointer (some ⟨hd, 0, none⟩), .pointer (some ⟨hq, 0, none⟩)] enters_ranks X Y Wn Hn p Hrg.out (by rw [← HN.out]; exact hpL)
              (fun d w' => ∃ (o : Nat → Int) (L : List Nat) (Q : Option Addr) (cap : Nat), RM w w' hf hk hr hd hq gr X Y Wn Hn N A c (some ⟨gd, 0, none⟩) N p o L Q cap ∧ BQ Wn Hn N (fun k => valI (l.getD k 0)) K o L (some (p, d)) ∧ left N (fun k => decide (o k ≠ (N : Int))) + L.length + 1 ≤ gk ∧ left N (fun k => decide (o k ≠ (N : Int))) + L.length ≤ 2 * N)
              (fun d wa wb ⟨o, L, Q, cap, h1, h2, h3, h4⟩ hx => ⟨o, L, Q, cap, h1.step hx, h2, h3, h4⟩)
              (fun d n wa hd8 hnb ⟨o, L, Q, cap, h1, h2, h3, h4⟩ => by
                have hnN : n < N := by rw [HN.out]; exact nbr_lt hnb
                have hop := (h2.cur1 p d rfl).2.1
                have hKp := HR.out.pos p hpL
                refine (ranks1_any w wa hf hk hr hd hq gr X Y Wn Hn N A c _ N p o L Q cap l n d h1 Hl.out hV hpL hnN (by omega) (Hh.out p hpL) (Hh.out n hnN) (by omega) (by omega)).mono ?_
                rintro e wb ⟨rfl, hreg, Q', cap', ⟨hv, hon, h5⟩ | ⟨hno, h5⟩⟩
                · obtain ⟨hKn, h6⟩ := h2.push HR.out Hrg.out.w1 HN.out hd8 hnb hv hon
                  have hKn2 := (HR.out.pos n hnN).2
                  have e : (fun k => decide (updF o n (o p + 1) k ≠ (N : Int))) = updF (fun k => decide (o k ≠ (N : Int))) n true := by
                    funext k
                    by_cases hk' : k = n
                    · subst hk'
                      rw [updF_same, updF_same]
                      simp
                      omega
                    · rw [updF_ne _ _ hk', updF_ne _ _ hk']
                  have hlu := left_upd (done := fun k => decide (o k ≠ (N : Int))) hnN (show (fun k => decide (o k ≠ (N : Int))) n = false from by simp [hon])
                  refine ⟨rfl, ⟨_, _, Q', cap', h5, h6, ?_, ?_⟩, hreg⟩
                  · rw [e]
                    simp only [List.length_append, List.length_singleton]
                    omega
                  · rw [e]
                    simp only [List.length_append, List.length_singleton]
                    omega
                · refine ⟨rfl, ⟨o, L, Q', cap', h5, h2.skip (fun m hm hv => ?_), h3, h4⟩, hreg⟩
                  rw [hnb] at hm
                  cases hm
                  exact fun h => hno ⟨hv, h⟩)
              (fun d wa hd8 hnb ⟨o, L, Q, cap, h1, h2, h3, h4⟩ => ⟨o, L, Q, cap, h1, h2.skip (fun m hm _ => by rw [hnb] at hm; cases hm), h3, h4⟩)
              w6 ⟨o, M, _, _, hRM, HB.out.take, by have := Hg.out; simp only [List.length_cons] at this; omega, by have := Hg2.out; simp only [List.length_cons] at this; omega⟩)
            unfold rgv at HI
            clear hRM
            go_wp2_with (go_at_call 128; refine HI.out.mono ?_; rintro e w9 ⟨rfl, o9, L9, Q9, cap9, hF9, hB9, hg9, hl9⟩)
            have HF9 := hidA (RM.less hF9)
            have HB9 := hidA hB9.all
            have Hg9 := hidA hg9
            have Hl9 := hidA hl9
            clear hF9 hB9 hg9 hl9 c0 c1 c2 c3 k0
            go_wp2_with fail
            go_roundg (left N (fun k => decide (o9 k ≠ (N : Int))) + L9.length)
            case measure => have := Hg9.out; omega
            case rel => exact ⟨_, _, _, _, HF9.out, HB9.out, Nat.le_refl _, Hl9.out, trivial⟩
end Go.Proofs.Ytinohfgokpbcdaa
namespace Go.Proofs.Ytinohfgokpbcdaa
open Go.RowKit

/-- the least so far, as the program keeps it -/
def lstZ (N : Nat) (b : Int) : Int := if b < 0 then (N : Int) + 1 else b
theorem bst_take {v : Nat → Nat} {R : Nat → Int} {Wn Hn k d m N : Nat} (h : nbr Wn Hn k d = some m) (h0 : 0 ≤ R m) (hv : valI (v m) = valI (v k)) (hz : R m < lstZ N (bstD v R Wn Hn k d).1) : bstD v R Wn Hn k (d + 1) = (R m, (d : Int)) := by
  rw [bst_some h, if_pos]
  refine ⟨hv, h0, ?_⟩
  unfold lstZ at hz
  split at hz
  · exact .inl ‹_›
  · exact .inr hz
theorem bst_keep {v : Nat → Nat} {R : Nat → Int} {Wn Hn k d m N : Nat} (h : nbr Wn Hn k d = some m) (hN : R m < N) (hz : ¬ (valI (v m) = valI (v k) ∧ R m < lstZ N (bstD v R Wn Hn k d).1)) : bstD v R Wn Hn k (d + 1) = bstD v R Wn Hn k d := by
  rw [bst_some h, if_neg]
  rintro ⟨hv, h0, h1⟩
  refine hz ⟨hv, ?_⟩
  unfold lstZ
  split
  · omega
  · rcases h1 with h1 | h1
    · omega
    · exact h1
theorem bst_none {v : Nat → Nat} {R : Nat → Int} {Wn Hn k d : Nat} (h : nbr Wn Hn k d = none) : bstD v R Wn Hn k (d + 1) = bstD v R Wn Hn k d := by simp [bstD, h]
theorem lst_nonneg {N : Nat} {b : Int} (h : 0 ≤ b) : lstZ N b = b := if_neg (by omega)
end Go.Proofs.Ytinohfgokpbcdaa
namespace Go.Proofs.Ytinohfgokpbcdaa
open Go.RowKit

/-- what drain holds between the cells: the filled field, the ranks, the directions -/
structure DN (W0 w : World) (hf hr hd gr gd : Nat) (X Y : Int) (Wn Hn N : Nat) (A : Option Addr) (c : Nat) (R I : Nat → Int) : Prop where
  fb : Bk w hf 26 #[.int .i64 X, .int .i64 Y, .int .i64 (Wn : Int), .int .i64 (Hn : Int), .slice A N c]
  rb : Bk w hr 41 #[.slice (some ⟨gr, 0, none⟩) N N]
  db : Bk w hd 41 #[.slice (some ⟨gd, 0, none⟩) N N]
  gb : Bk w gr 3 (intB N R)
  ib : Bk w gd 3 (intB N I)
  ext : Ext W0 w
  b2 : W0.heap.size ≤ gd
  n4 : gr ≠ gd
section
variable {W0 w : World} {hf hr hd gr gd : Nat} {X Y : Int} {Wn Hn N : Nat} {A : Option Addr} {c : Nat} {R I : Nat → Int}
theorem DN.step (h : DN W0 w hf hr hd gr gd X Y Wn Hn N A c R I) {w' : World} (hx : Ext w w') : DN W0 w' hf hr hd gr gd X Y Wn Hn N A c R I :=
  ⟨h.fb.ext hx, h.rb.ext hx, h.db.ext hx, h.gb.ext hx, h.ib.ext hx, h.ext.trans hx, h.b2, h.n4⟩
theorem DN.more (h : DN W0 w hf hr hd gr gd X Y Wn Hn N A c R I) {hk hl k : Nat} {z : Int} {w' : World} (hx : Ext w w') (h1 : w.heap.size ≤ hk) (h2 : w.heap.size ≤ hl) (h3 : hk ≠ hl) (hK : Bk w' hk 3 #[.int .i64 (k : Int)]) (hL : Bk w' hl 3 #[.int .i64 z]) : XM W0 w' hf hk hr hl hd gr gd X Y Wn Hn N A c k R I z := by
  have g1 := h.gb.lt
  have g2 := h.ib.lt
  have g3 := h.ext.size
  have h' := h.step hx
  exact ⟨h'.fb, hK, h'.rb, hL, h'.db, h'.gb, h'.ib, h'.ext, by omega, h.b2, h3, by omega, by omega, h.n4, by omega⟩
theorem XM.less {hk hl k : Nat} {z : Int} (h : XM W0 w hf hk hr hl hd gr gd X Y Wn Hn N A c k R I z) : DN W0 w hf hr hd gr gd X Y Wn Hn N A c R I :=
  ⟨h.fb, h.rb, h.db, h.gb, h.ib, h.ext, h.b2, h.n4⟩
end
/-- the directions, when the first k cells are done -/
structure DK (v : Nat → Nat) (R : Nat → Int) (Wn Hn N k : Nat) (I : Nat → Int) : Prop where
  done : ∀ j, j < k → I j = drnV v R Wn Hn j
  rest : ∀ j, k ≤ j → j < N → I j = (stp v Wn Hn j 8).1
section
variable {v : Nat → Nat} {R I : Nat → Int} {Wn Hn N k : Nat}
theorem DK.skip (h : DK v R Wn Hn N k I) (hk : k < N) (hs : (stp v Wn Hn k 8).1 ≠ -1 ∨ brd Wn Hn k = true) : DK v R Wn Hn N (k + 1) I := by
  refine ⟨fun j hj => ?_, fun j h1 h2 => h.rest j (by omega) h2⟩
  by_cases e : j = k
  · subst e
    rw [h.rest j (Nat.le_refl _) hk]
    unfold drnV
    split
    · rfl
    · rename_i hn
      have h3 := stp_neg (v := v) (Wn := Wn) (Hn := Hn) (k := j) 8 (by omega)
      have h4 : (stp v Wn Hn j 8).1 = -1 := by rw [h3]
      rcases hs with hs | hs
      · exact absurd h4 hs
      · rw [if_pos hs, h4]
  · exact h.done j (by omega)
/-- within a cell: what the neighbours up to d have brought -/
structure DD (v : Nat → Nat) (R : Nat → Int) (Wn Hn N k d : Nat) (I : Nat → Int) : Prop where
  done : ∀ j, j < k → I j = drnV v R Wn Hn j
  here : I k = (bstD v R Wn Hn k d).2
  rest : ∀ j, k + 1 ≤ j → j < N → I j = (stp v Wn Hn j 8).1
theorem DK.into (h : DK v R Wn Hn N k I) (hk : k < N) (hs : (stp v Wn Hn k 8).1 = -1) : DD v R Wn Hn N k 0 I :=
  ⟨h.done, by rw [h.rest k (Nat.le_refl _) hk, hs]; rfl, fun j h1 h2 => h.rest j (by omega) h2⟩
theorem DD.out (h : DD v R Wn Hn N k 8 I) (hs : (stp v Wn Hn k 8).1 = -1) (hb : brd Wn Hn k = false) : DK v R Wn Hn N (k + 1) I := by
  refine ⟨fun j hj => ?_, h.rest⟩
  by_cases e : j = k
  · subst e
    rw [h.here]
    unfold drnV
    rw [if_neg (by omega), if_neg (by rw [hb]; decide)]
  · exact h.done j (by omega)
theorem DD.none {d : Nat} (h : DD v R Wn Hn N k d I) (hn : nbr Wn Hn k d = none) : DD v R Wn Hn N k (d + 1) I :=
  ⟨h.done, by rw [h.here, bst_none hn], h.rest⟩
theorem DD.same {d n : Nat} (h : DD v R Wn Hn N k d I) (hn : nbr Wn Hn k d = some n) (hN : R n < N) (hz : ¬ (valI (v n) = valI (v k) ∧ R n < lstZ N (bstD v R Wn Hn k d).1)) : DD v R Wn Hn N k (d + 1) I :=
  ⟨h.done, by rw [h.here, bst_keep hn hN hz], h.rest⟩
theorem DD.take {d n : Nat} (h : DD v R Wn Hn N k d I) (hn : nbr Wn Hn k d = some n) (h0 : 0 ≤ R n) (hv : valI (v n) = valI (v k)) (hz : R n < lstZ N (bstD v R Wn Hn k d).1) : DD v R Wn Hn N k (d + 1) (updF I k (d : Int)) := by
  refine ⟨fun j hj => ?_, ?_, fun j h1 h2 => ?_⟩
  · rw [updF_ne _ _ (by omega)]
    exact h.done j hj
  · rw [updF_same, bst_take hn h0 hv hz]
  · rw [updF_ne _ _ (by omega)]
    exact h.rest j h1 h2
end
end Go.Proofs.Ytinohfgokpbcdaa
namespace Go.Proofs.Ytinohfgokpbcdaa
open Go.RowKit
attribute [local go_sem ↓] Go.wp_at_zero Go.wp_at_succ
attribute [local go_sem] run_store_float

/-- what the reference holds in memory -/
structure OM (W0 w : World) (hf g1 g2 : Nat) (X Y : Int) (Wn Hn N : Nat) (A : Option Addr) (c : Nat) (known : Nat → Bool) (out : Nat → Nat) : Prop where
  fb : Bk w hf 26 #[.int .i64 X, .int .i64 Y, .int .i64 (Wn : Int), .int .i64 (Hn : Int), .slice A N c]
  ob : Bk w g1 27 (flo N out)
  kb : Bk w g2 4 (bools N known)
  ext : Ext W0 w
  b1 : W0.heap.size ≤ g1
  b2 : W0.heap.size ≤ g2
section
variable {W0 w : World} {hf g1 g2 : Nat} {X Y : Int} {Wn Hn N : Nat} {A : Option Addr} {c : Nat} {known : Nat → Bool} {out : Nat → Nat}
theorem OM.step (h : OM W0 w hf g1 g2 X Y Wn Hn N A c known out) {w' : World} (hx : Ext w w') : OM W0 w' hf g1 g2 X Y Wn Hn N A c known out := ⟨h.fb.ext hx, h.ob.ext hx, h.kb.ext hx, h.ext.trans hx, h.b1, h.b2⟩
theorem OM.put (h : OM W0 w hf g1 g2 X Y Wn Hn N A c known out) (k x : Nat) : OM W0 ((w.setCell ⟨g1, k, none⟩ (.float .f32 x)).setCell ⟨g2, k, none⟩ (.bool true)) hf g1 g2 X Y Wn Hn N A c (updF known k true) (updF out k x) := by
  have e1 := Bk.set h.ob k (.float .f32 x)
  rw [flo_set] at e1
  have f1 : ∀ {g : Nat} {t : TypeId} {cs : Array Value}, Bk w g t cs → g ≠ g1 → Bk (w.setCell ⟨g1, k, none⟩ (.float .f32 x)) g t cs := fun hb hn => hb.far hn _
  have eg := f1 h.kb (Bk.ne h.kb h.ob (by decide))
  have e2 := Bk.set eg k (.bool true)
  rw [bools_set] at e2
  have f2 : ∀ {g : Nat} {t : TypeId} {cs : Array Value}, Bk (w.setCell ⟨g1, k, none⟩ (.float .f32 x)) g t cs → g ≠ g2 → Bk ((w.setCell ⟨g1, k, none⟩ (.float .f32 x)).setCell ⟨g2, k, none⟩ (.bool true)) g t cs := fun hb hn => hb.far hn _
  exact ⟨f2 (f1 h.fb (Bk.ne h.fb h.ob (by decide))) (Bk.ne h.fb h.kb (by decide)), f2 e1 (Bk.ne h.ob h.kb (by decide)), e2, (h.ext.setCell h.b1 _).setCell h.b2 _, h.b1, h.b2⟩
end

set_option maxRecDepth 100000 in
set_option maxHeartbeats 6400000 in
theorem filledOf_any (X Y : Int) (Wn Hn N : Nat) (A : Option Addr) (c slope : Nat) (l : List Nat) (w : World) (hr : Reg X Y Wn Hn) (hN : N = Wn * Hn) (hl : l.length = N) (hV : Rd w A (flt l)) (hh : ∀ x ∈ l, Bd 20 x) (hs : Bd 10 slope) (h0 : 0 ≤ valI slope) :
    Calls Try.prog 23 #[.agg #[.int .i64 X, .int .i64 Y, .int .i64 (Wn : Int), .int .i64 (Hn : Int), .slice A N c], .float .f32 slope] w fun e w' => FillPost Wn Hn N slope l w e w' := by
  have hN6 : N ≤ 65536 := by rw [hN]; exact hr.n
  have mb := mk_bool N (by omega)
  have mf := mk_flo N (by omega)
  have hlk : ∀ j, j < N → Bd 20 (l.getD j 0) := fun j hj => by
    have hjl : j < l.length := by omega
    have e : l.getD j 0 = l[j] := by simp [List.getD_eq_getElem?_getD, hjl]
    rw [e]
    exact hh _ (List.getElem_mem hjl)
  have Hr := hidA hr
  have HN := hidA hN
  have Hl := hidA hl
  have Hh := hidA hlk
  have Hs := hidA hs
  have H0 := hidA h0
  clear hr hN hl hh hlk hs h0
  obtain ⟨w1, hw1⟩ : ∃ w1, w1 = ((w.alloc (.cells #[.int .i64 X, .int .i64 Y, .int .i64 (Wn : Int), .int .i64 (Hn : Int), .slice A N c] 26)).alloc (.cells (flo N fun _ => 0) 27)).alloc (.cells (bools N fun _ => false) 4) := ⟨_, rfl⟩
  have hO1 : OM w w1 w.heap.size (w.heap.size + 1) (w.heap.size + 1 + 1) X Y Wn Hn N A c (fun _ => false) (fun _ => 0) := by
    rw [hw1]
    refine ⟨?_, ?_, ?_, ?_, by omega, by omega⟩
    · exact ((Bk.new' rfl).alloc _).alloc _
    · refine (Bk.new' ?_).alloc _
      simp
    · refine Bk.new' ?_
      simp
    · exact (((Ext.refl w).alloc _).alloc _).alloc _
  go_enter Try.func23, Try.ntmps23
  go_upto_region 3 with fail
  rw [← hw1]
  clear hw1 mb mf
  generalize w.heap.size + 1 + 1 = g2 at *
  generalize w.heap.size + 1 = g1 at *
  generalize hfe : w.heap.size = hf at hO1 ⊢
  have Hfe := hidA hfe
  clear hfe
  have c4 := hO1.fb.cell 4
  go_wp2
  clear c4
  go_loopw [26] (fun s26 wr => ∃ (k : Nat) (known : Nat → Bool) (out : Nat → Nat) (xs : List SpR), k ≤ N ∧ s26 = .int .i64 k ∧ OM w wr hf g1 g2 X Y Wn Hn N A c known out ∧ BI Wn Hn k l known out xs) (fun s26 _ => N - (intOf s26).toNat)
  case atStart => exact ⟨0, _, _, _, Nat.zero_le _, rfl, hO1, BI.zero Wn Hn l⟩
  case round =>
    clear hO1
    obtain ⟨k, known, out, xs, hk, rfl, hO, hB⟩ := hrel
    have HB := hidA hB
    clear hB
    by_cases hkN : k < N
    · have hkl : k < l.length := by have := Hl.out; omega
      obtain ⟨ad, rfl, hbk, hcv⟩ := (hV.ext hO.ext).at (k := k) (by rw [flt_length]; exact hkl)
      have ck := hcv k _ (flt_get hkl)
      have el : l.getD k 0 = l[k] := by simp [List.getD_eq_getElem?_getD, hkl]
      obtain ⟨x0, hx0⟩ : ∃ x0, x0 = l.getD k 0 := ⟨_, rfl⟩
      rw [← el, ← hx0] at ck
      have Hx0 := hidA hx0
      clear hcv el hx0
      have c0 := hO.fb.cell 0
      have c1 := hO.fb.cell 1
      have c2 := hO.fb.cell 2
      have c3 := hO.fb.cell 3
      have HBo := fun (w : World) => hidA (edge_any X Y Wn Hn k w Hr.out (by rw [← HN.out]; exact hkN))
      unfold rgv at HBo
      cases hb : brd Wn Hn k
      · have Hb := hidA hb
        rw [hb] at HBo
        clear hb
        go_wp2_with (go_at_call 84; refine ((HBo _).out).mono ?_; rintro e w2 ⟨rfl, hx2⟩)
        go_roundw
        case rel => exact ⟨k + 1, known, out, xs, by omega, by go_num, hO.step hx2, HB.out.pass Hb.out⟩
        case measure => simp [intOf]; omega
      · have Hb := hidA hb
        rw [hb] at HBo
        clear hb
        go_upto_region 7 with (go_at_call 84; refine ((HBo _).out).mono ?_; rintro e w2 ⟨rfl, hx2⟩)
        have hO2 := hO.step hx2
        clear c0 c1 c2 c3 ck
        have o1 : w2.cell? ⟨g1, k, none⟩ = some (.float .f32 (out k)) := by rw [hO2.ob.cell]; exact flo_get _ hkN
        have o2 : w2.cell? ⟨g2, k, none⟩ = some (.bool (known k)) := by rw [hO2.kb.cell]; exact bools_get _ hkN
        have f1 := hO2.ob.frozen k
        have f2 := hO2.kb.frozen k
        have j0 : (0 : Int) ≤ k := by omega
        have j1 : (k : Int) < N := by omega
        have hgo : g1 ≠ g2 := Bk.ne hO2.ob hO2.kb (by decide)
        have q1 : (w2.setCell ⟨g1, k, none⟩ (.float .f32 x0)).cell? ⟨g2, k, none⟩ = some (.bool (known k)) := by rw [(hO2.kb.far (p := ⟨g1, k, none⟩) (Ne.symm hgo) (.float .f32 x0)).cell]; exact bools_get _ hkN
        have HO3 := hidA (hO2.put k x0)
        have hB3 := HB.out.next Hb.out
        rw [← Hx0.out] at hB3
        have HB3 := hidA hB3
        clear hB3 hO2 hgo
        go_wp2
        go_roundw
        case rel => exact ⟨k + 1, _, _, _, by omega, by go_num, HO3.out.step (by first | exact Ext.refl _ | exact Ext.drew (Ext.refl _)), HB3.out⟩
        case measure => simp [intOf]; omega
    · have hkN' : N = k := by omega
      subst hkN'
      have hR : RS Wn Hn N slope l known out := ⟨fun j hj hkj => by
          obtain ⟨a, b⟩ := HB.out.s2 j hkj
          rw [(HB.out.s1 j a b).2.1]
          exact Way.start (H := fun k => valI (l.getD k 0)) (by rw [← HN.out]; exact hj) b, fun j hj hkj => by
          obtain ⟨a, b⟩ := HB.out.s2 j hkj
          rw [(HB.out.s1 j a b).2.1]
          exact (Hh.out j hj).mono (by omega), fun j hj hbj => ⟨(HB.out.s1 j hj hbj).1, (HB.out.s1 j hj hbj).2.1⟩⟩
      have HR := hidA hR
      have HO := hidA hO
      clear hR hO HB
      go_wp2
      go_loopg [9] (2 * rankN known out N + 1) (fun gk s9 wr => ∃ (ag : Bool) (known : Nat → Bool) (out : Nat → Nat), s9 = .bool ag ∧ OM w wr hf g1 g2 X Y Wn Hn N A c known out ∧ RS Wn Hn N slope l known out ∧ (ag = false → CalmTo Wn Hn slope l known out N) ∧ 2 * rankN known out N + ag.toNat ≤ gk)
      case atStart => exact ⟨true, known, out, rfl, HO.out, HR.out, (fun h => by cases h), Nat.le_refl _⟩
      case round =>
        clear HR HO
        obtain ⟨ag, known, out, rfl, hO, hR, hC, hg⟩ := hrel
        have HR := hidA hR
        have HC := hidA hC
        have Hg := hidA hg
        clear hR hC hg
        cases ag
        · have hend := HR.out.least HN.out Hr.out.w1 (HC.out rfl)
          have Hend := hidA hend
          clear hend
          go_wp2
          go_ret
          exact ⟨g1, out, rfl, hO.b1, hO.ob, Hend.out.1, Hend.out.2, hO.ext⟩
        · have c4 := hO.fb.cell 4
          have Hg2 := hidA (show 2 * rankN known out N + 1 ≤ gk from Hg.out)
          obtain ⟨M0, hM0⟩ : ∃ M0, M0 = rankN known out N := ⟨_, rfl⟩
          rw [← hM0] at Hg2
          go_wp2
          clear c4
          go_loopw [9, 47] (fun s9 s47 wr => ∃ (ag : Bool) (k : Nat) (known : Nat → Bool) (out : Nat → Nat), s9 = .bool ag ∧ s47 = .int .i64 k ∧ k ≤ N ∧ OM w wr hf g1 g2 X Y Wn Hn N A c known out ∧ RS Wn Hn N slope l known out ∧ (ag = false → CalmTo Wn Hn slope l known out k) ∧ rankN known out N ≤ M0 ∧ (ag = true → rankN known out N < M0)) (fun _ s47 _ => N - (intOf s47).toNat)
          case atStart => exact ⟨false, 0, known, out, rfl, rfl, Nat.zero_le _, hO, HR.out, (fun _ j hj => by omega), Nat.le_of_eq hM0.symm, (fun h => by cases h)⟩
          case round =>
            clear hM0 hO HR HC Hg
            obtain ⟨ag, k, known, out, rfl, rfl, hk, hO, hR, hC, hM, hT⟩ := hrel
            have HR := hidA hR
            have HC := hidA hC
            have HM := hidA hM
            have HT := hidA hT
            clear hR hC hM hT
            by_cases hkN : k < N
            · have hkl : k < l.length := by have := Hl.out; omega
              obtain ⟨ad, rfl, hbk, hcv⟩ := (hV.ext hO.ext).at (k := k) (by rw [flt_length]; exact hkl)
              have ck := hcv k _ (flt_get hkl)
              have el : l.getD k 0 = l[k] := by simp [List.getD_eq_getElem?_getD, hkl]
              obtain ⟨x0, hx0⟩ : ∃ x0, x0 = l.getD k 0 := ⟨_, rfl⟩
              rw [← el, ← hx0] at ck
              have Hx0 := hidA hx0
              clear hcv el hx0
              have c0 := hO.fb.cell 0
              have c1 := hO.fb.cell 1
              have c2 := hO.fb.cell 2
              have c3 := hO.fb.cell 3
              have HBo := fun (w : World) => hidA (edge_any X Y Wn Hn k w Hr.out (by rw [← HN.out]; exact hkN))
              unfold rgv at HBo
              cases hb : brd Wn Hn k
              · have Hb := hidA hb
                rw [hb] at HBo
                clear hb
                go_upto_region 16 with (go_at_call 84; refine ((HBo _).out).mono ?_; rintro e w2 ⟨rfl, hx2⟩)
                have hO2 := hO.step hx2
                clear c0 c1 c2 c3 ck hO hx2 HBo
                go_wp2
                go_loopw [9, 56] (fun s9 s56 wr => ∃ (ag : Bool) (d : Nat) (known : Nat → Bool) (out : Nat → Nat), s9 = .bool ag ∧ s56 = .int .i64 d ∧ d ≤ 8 ∧ OM w wr hf g1 g2 X Y Wn Hn N (some ad) c known out ∧ RS Wn Hn N slope l known out ∧ (ag = false → CalmTo Wn Hn slope l known out k) ∧ (ag = false → ∀ d', d' < d → Calm Wn Hn slope l known out k d') ∧ rankN known out N ≤ M0 ∧ (ag = true → rankN known out N < M0)) (fun _ s56 _ => 8 - (intOf s56).toNat)
                case atStart => exact ⟨ag, 0, known, out, rfl, rfl, Nat.zero_le _, hO2, HR.out, HC.out, (fun _ d' h => by omega), HM.out, HT.out⟩
                case round =>
                  clear HR HC HM HT hO2
                  obtain ⟨ag, d, known, out, rfl, rfl, hd, hO, hR, hC, hD, hM, hT⟩ := hrel
                  have HR := hidA hR
                  have HC := hidA hC
                  have HD := hidA hD
                  have HM := hidA hM
                  have HT := hidA hT
                  clear hR hC hD hM hT
                  by_cases hd8 : d < 8
                  · have HNb := fun (w : World) => hidA (nb_any X Y Wn Hn k d w Hr.out (by rw [← HN.out]; exact hkN) hd8)
                    unfold rgv at HNb
                    obtain ⟨n, hnb⟩ : ∃ n, nbr Wn Hn k d = some n := by
                      cases h : nbr Wn Hn k d with
                      | some n => exact ⟨n, rfl⟩
                      | none =>
                        have h2 := (brd_nbr Hr.out.w1 (by rw [← HN.out]; exact hkN)).2 ⟨d, hd8, h⟩
                        rw [Hb.out] at h2
                        cases h2
                    have Hnb := hidA hnb
                    have hnN : n < N := by rw [HN.out]; exact nbr_lt hnb
                    rw [hnb] at HNb
                    simp only [nbI] at HNb
                    have c0 := hO.fb.cell 0
                    have c1 := hO.fb.cell 1
                    have c2 := hO.fb.cell 2
                    have c3 := hO.fb.cell 3
                    clear hnb
                    go_upto_region 20 with (go_at_call 63; refine ((HNb _).out).mono ?_; rintro e w4 ⟨rfl, hx4⟩)
                    have hO3 := hO.step hx4
                    clear c0 c1 c2 c3 hO hx4 HNb
                    have d1 : w4.cell? ⟨g2, n, none⟩ = some (.bool (known n)) := by rw [hO3.kb.cell]; exact bools_get _ hnN
                    have d2 : w4.cell? ⟨g2, k, none⟩ = some (.bool (known k)) := by rw [hO3.kb.cell]; exact bools_get _ hkN
                    have d3 : w4.cell? ⟨g1, n, none⟩ = some (.float .f32 (out n)) := by rw [hO3.ob.cell]; exact flo_get _ hnN
                    have i0 : (0 : Int) ≤ n := by omega
                    have i1 : (n : Int) < N := by omega
                    have j0 : (0 : Int) ≤ k := by omega
                    have j1 : (k : Int) < N := by omega
                    cases hkn : known n
                    · rw [hkn] at d1
                      have Hkn := hidA hkn
                      clear hkn
                      go_wp2
                      go_roundw
                      case rel =>
                        refine ⟨ag, d + 1, known, out, rfl, by go_num, by omega, hO3, HR.out, HC.out, fun hh d' hd' => ?_, HM.out, HT.out⟩
                        rcases Nat.lt_or_eq_of_le (Nat.le_of_lt_succ hd') with h1 | rfl
                        · exact HD.out hh d' h1
                        · intro n' hn' hk'
                          rw [Hnb.out] at hn'
                          injection hn' with hn'
                          subst hn'
                          rw [Hkn.out] at hk'
                          cases hk'
                      case measure => simp [intOf]; omega
                    · rw [hkn] at d1
                      have Hkn := hidA hkn
                      clear hkn
                      obtain ⟨x, hx⟩ : ∃ x, x = relR x0 slope (out n) := ⟨_, rfl⟩
                      have Hx := hidA hx
                      have hadd := (fadd_ok (HR.out.r2 n hnN Hkn.out) (Hs.out.mono (by omega : 10 ≤ 36)) (by omega)).1
                      have hrun := fun (w : World) => run_float_arith (P := Try.prog) w .add 27 .f32 _ _ _ hadd
                      clear hadd
                      cases hg : gt x0 (fadd (out n) slope)
                      · have hxe : x = fadd (out n) slope := by rw [hx]; unfold relR; rw [if_neg (by rw [hg]; decide)]
                        have hg' : (FloatKind.f32.format.order x0 (fadd (out n) slope) == some .gt) = false := hg
                        clear hg hx
                        rw [← hxe] at hrun hg'
                        clear hxe
                        go_upto_region 24 with fail
                        clear hg'
                        clear hrun
                        cases hkk : known k
                        · rw [hkk] at d2
                          have Hkk := hidA hkk
                          have o1 : w4.cell? ⟨g1, k, none⟩ = some (.float .f32 (out k)) := by rw [hO3.ob.cell]; exact flo_get _ hkN
                          have f1 := hO3.ob.frozen k
                          have f2 := hO3.kb.frozen k
                          have hgo : g1 ≠ g2 := Bk.ne hO3.ob hO3.kb (by decide)
                          have q1 : (w4.setCell ⟨g1, k, none⟩ (.float .f32 x)).cell? ⟨g2, k, none⟩ = some (.bool (known k)) := by rw [(hO3.kb.far (p := ⟨g1, k, none⟩) (Ne.symm hgo) (.float .f32 x)).cell]; exact bools_get _ hkN
                          have HO4 := hidA (hO3.put k x)
                          have HU := hidA (HR.out.upd HN.out Hr.out.w1 hkN Hb.out hd8 Hnb.out Hkn.out (Hh.out k hkN) Hs.out H0.out (by rw [← Hx0.out, ← Hx.out]; exact .inl Hkk.out))
                          rw [← Hx0.out, ← Hx.out] at HU
                          have HM2 := hidA (show rankN (updF known k true) (updF out k x) N < M0 from by have h1 := HU.out.2; have h2 := HM.out; omega)
                          clear hO3 hgo
                          go_wp2
                          go_roundw
                          case rel => exact ⟨true, d + 1, _, _, rfl, by go_num, by omega, HO4.out.step (by first | exact Ext.refl _ | exact Ext.drew (Ext.refl _)), HU.out.1, (fun h => by cases h), (fun h => by cases h), Nat.le_of_lt HM2.out, fun _ => HM2.out⟩
                          case measure => simp [intOf]; omega
                        · rw [hkk] at d2
                          have Hkk := hidA hkk
                          cases hlt : lt x (out k)
                          · have hlt' : (FloatKind.f32.format.order x (out k) == some .lt) = false := hlt
                            have Hlt := hidA hlt
                            have o1 : w4.cell? ⟨g1, k, none⟩ = some (.float .f32 (out k)) := by rw [hO3.ob.cell]; exact flo_get _ hkN
                            clear hlt
                            have HCk := hidA (show Calm Wn Hn slope l known out k d from fun n' hn' _ => by
                              have e : n' = n := by rw [Hnb.out] at hn'; injection hn' with hn'; exact hn'.symm
                              subst e
                              refine ⟨Hkk.out, ?_⟩
                              have h9 := relR_val (Hh.out k hkN) (HR.out.r2 n' hnN Hkn.out) Hs.out H0.out
                              rw [← Hx0.out] at h9
                              have h10 := Hlt.out
                              have hbx := relR_bd (Hh.out k hkN) (HR.out.r2 n' hnN Hkn.out) Hs.out H0.out
                              rw [← Hx0.out] at hbx
                              rw [lt_val (bd_Fin (by rw [Hx.out]; exact hbx) (by omega)) (bd_Fin (HR.out.r2 k hkN Hkk.out) (by omega)), Hx.out, h9] at h10
                              rw [Hx0.out] at h10
                              simpa using h10)
                            go_wp2
                            go_roundw
                            case rel =>
                              refine ⟨ag, d + 1, known, out, rfl, by go_num, by omega, hO3, HR.out, HC.out, fun hh d' hd' => ?_, HM.out, HT.out⟩
                              rcases Nat.lt_or_eq_of_le (Nat.le_of_lt_succ hd') with h1 | rfl
                              · exact HD.out hh d' h1
                              · exact HCk.out
                            case measure => simp [intOf]; omega
                          · have hlt' : (FloatKind.f32.format.order x (out k) == some .lt) = true := hlt
                            have Hlt := hidA hlt
                            clear hlt
                            have o1 : w4.cell? ⟨g1, k, none⟩ = some (.float .f32 (out k)) := by rw [hO3.ob.cell]; exact flo_get _ hkN
                            have f1 := hO3.ob.frozen k
                            have f2 := hO3.kb.frozen k
                            have hgo : g1 ≠ g2 := Bk.ne hO3.ob hO3.kb (by decide)
                            have q1 : (w4.setCell ⟨g1, k, none⟩ (.float .f32 x)).cell? ⟨g2, k, none⟩ = some (.bool (known k)) := by rw [(hO3.kb.far (p := ⟨g1, k, none⟩) (Ne.symm hgo) (.float .f32 x)).cell]; exact bools_get _ hkN
                            have HO4 := hidA (hO3.put k x)
                            have HU := hidA (HR.out.upd HN.out Hr.out.w1 hkN Hb.out hd8 Hnb.out Hkn.out (Hh.out k hkN) Hs.out H0.out (by rw [← Hx0.out, ← Hx.out]; exact .inr (by have h10 := Hlt.out; have hbx := relR_bd (Hh.out k hkN) (HR.out.r2 n hnN Hkn.out) Hs.out H0.out; rw [← Hx0.out, ← Hx.out] at hbx; rw [lt_val (bd_Fin hbx (by omega)) (bd_Fin (HR.out.r2 k hkN Hkk.out) (by omega))] at h10; simpa using h10)))
                            rw [← Hx0.out, ← Hx.out] at HU
                            have HM2 := hidA (show rankN (updF known k true) (updF out k x) N < M0 from by have h1 := HU.out.2; have h2 := HM.out; omega)
                            clear hO3 hgo
                            go_wp2
                            go_roundw
                            case rel => exact ⟨true, d + 1, _, _, rfl, by go_num, by omega, HO4.out.step (by first | exact Ext.refl _ | exact Ext.drew (Ext.refl _)), HU.out.1, (fun h => by cases h), (fun h => by cases h), Nat.le_of_lt HM2.out, fun _ => HM2.out⟩
                            case measure => simp [intOf]; omega
                      · have hxe : x = x0 := by rw [hx]; unfold relR; rw [if_pos hg]
                        have hg' : (FloatKind.f32.format.order x0 (fadd (out n) slope) == some .gt) = true := hg
                        clear hg hx
                        subst hxe
                        go_upto_region 24 with fail
                        clear hg'
                        clear hrun
                        cases hkk : known k
                        · rw [hkk] at d2
                          have Hkk := hidA hkk
                          have o1 : w4.cell? ⟨g1, k, none⟩ = some (.float .f32 (out k)) := by rw [hO3.ob.cell]; exact flo_get _ hkN
                          have f1 := hO3.ob.frozen k
                          have f2 := hO3.kb.frozen k
                          have hgo : g1 ≠ g2 := Bk.ne hO3.ob hO3.kb (by decide)
                          have q1 : (w4.setCell ⟨g1, k, none⟩ (.float .f32 x)).cell? ⟨g2, k, none⟩ = some (.bool (known k)) := by rw [(hO3.kb.far (p := ⟨g1, k, none⟩) (Ne.symm hgo) (.float .f32 x)).cell]; exact bools_get _ hkN
                          have HO4 := hidA (hO3.put k x)
                          have HU := hidA (HR.out.upd HN.out Hr.out.w1 hkN Hb.out hd8 Hnb.out Hkn.out (Hh.out k hkN) Hs.out H0.out (by rw [← Hx0.out, ← Hx.out]; exact .inl Hkk.out))
                          rw [← Hx0.out, ← Hx.out] at HU
                          have HM2 := hidA (show rankN (updF known k true) (updF out k x) N < M0 from by have h1 := HU.out.2; have h2 := HM.out; omega)
                          clear hO3 hgo
                          go_wp2
                          go_roundw
                          case rel => exact ⟨true, d + 1, _, _, rfl, by go_num, by omega, HO4.out.step (by first | exact Ext.refl _ | exact Ext.drew (Ext.refl _)), HU.out.1, (fun h => by cases h), (fun h => by cases h), Nat.le_of_lt HM2.out, fun _ => HM2.out⟩
                          case measure => simp [intOf]; omega
                        · rw [hkk] at d2
                          have Hkk := hidA hkk
                          cases hlt : lt x (out k)
                          · have hlt' : (FloatKind.f32.format.order x (out k) == some .lt) = false := hlt
                            have Hlt := hidA hlt
                            have o1 : w4.cell? ⟨g1, k, none⟩ = some (.float .f32 (out k)) := by rw [hO3.ob.cell]; exact flo_get _ hkN
                            clear hlt
                            have HCk := hidA (show Calm Wn Hn slope l known out k d from fun n' hn' _ => by
                              have e : n' = n := by rw [Hnb.out] at hn'; injection hn' with hn'; exact hn'.symm
                              subst e
                              refine ⟨Hkk.out, ?_⟩
                              have h9 := relR_val (Hh.out k hkN) (HR.out.r2 n' hnN Hkn.out) Hs.out H0.out
                              rw [← Hx0.out] at h9
                              have h10 := Hlt.out
                              have hbx := relR_bd (Hh.out k hkN) (HR.out.r2 n' hnN Hkn.out) Hs.out H0.out
                              rw [← Hx0.out] at hbx
                              rw [lt_val (bd_Fin (by rw [Hx.out]; exact hbx) (by omega)) (bd_Fin (HR.out.r2 k hkN Hkk.out) (by omega)), Hx.out, h9] at h10
                              rw [Hx0.out] at h10
                              simpa using h10)
                            go_wp2
                            go_roundw
                            case rel =>
                              refine ⟨ag, d + 1, known, out, rfl, by go_num, by omega, hO3, HR.out, HC.out, fun hh d' hd' => ?_, HM.out, HT.out⟩
                              rcases Nat.lt_or_eq_of_le (Nat.le_of_lt_succ hd') with h1 | rfl
                              · exact HD.out hh d' h1
                              · exact HCk.out
                            case measure => simp [intOf]; omega
                          · have hlt' : (FloatKind.f32.format.order x (out k) == some .lt) = true := hlt
                            have Hlt := hidA hlt
                            clear hlt
                            have o1 : w4.cell? ⟨g1, k, none⟩ = some (.float .f32 (out k)) := by rw [hO3.ob.cell]; exact flo_get _ hkN
                            have f1 := hO3.ob.frozen k
                            have f2 := hO3.kb.frozen k
                            have hgo : g1 ≠ g2 := Bk.ne hO3.ob hO3.kb (by decide)
                            have q1 : (w4.setCell ⟨g1, k, none⟩ (.float .f32 x)).cell? ⟨g2, k, none⟩ = some (.bool (known k)) := by rw [(hO3.kb.far (p := ⟨g1, k, none⟩) (Ne.symm hgo) (.float .f32 x)).cell]; exact bools_get _ hkN
                            have HO4 := hidA (hO3.put k x)
                            have HU := hidA (HR.out.upd HN.out Hr.out.w1 hkN Hb.out hd8 Hnb.out Hkn.out (Hh.out k hkN) Hs.out H0.out (by rw [← Hx0.out, ← Hx.out]; exact .inr (by have h10 := Hlt.out; have hbx := relR_bd (Hh.out k hkN) (HR.out.r2 n hnN Hkn.out) Hs.out H0.out; rw [← Hx0.out, ← Hx.out] at hbx; rw [lt_val (bd_Fin hbx (by omega)) (bd_Fin (HR.out.r2 k hkN Hkk.out) (by omega))] at h10; simpa using h10)))
                            rw [← Hx0.out, ← Hx.out] at HU
                            have HM2 := hidA (show rankN (updF known k true) (updF out k x) N < M0 from by have h1 := HU.out.2; have h2 := HM.out; omega)
                            clear hO3 hgo
                            go_wp2
                            go_roundw
                            case rel => exact ⟨true, d + 1, _, _, rfl, by go_num, by omega, HO4.out.step (by first | exact Ext.refl _ | exact Ext.drew (Ext.refl _)), HU.out.1, (fun h => by cases h), (fun h => by cases h), Nat.le_of_lt HM2.out, fun _ => HM2.out⟩
                            case measure => simp [intOf]; omega
                  · obtain rfl : d = 8 := by omega
                    go_wp2
                    go_roundw
                    case rel =>
                      refine ⟨ag, k + 1, known, out, rfl, by go_num, by omega, hO, HR.out, fun hh j hj hbj d' hd' => ?_, HM.out, HT.out⟩
                      rcases Nat.lt_or_eq_of_le (Nat.le_of_lt_succ hj) with h1 | rfl
                      · exact HC.out hh j h1 hbj d' hd'
                      · exact HD.out hh d' hd'
                    case measure => simp [intOf]; omega
              · have Hb := hidA hb
                rw [hb] at HBo
                clear hb
                go_wp2_with (go_at_call 84; refine ((HBo _).out).mono ?_; rintro e w2 ⟨rfl, hx2⟩)
                go_roundw
                case rel =>
                  refine ⟨ag, k + 1, known, out, rfl, by go_num, by omega, hO.step hx2, HR.out, fun hh j hj hbj d' hd' => ?_, HM.out, HT.out⟩
                  rcases Nat.lt_or_eq_of_le (Nat.le_of_lt_succ hj) with h1 | rfl
                  · exact HC.out hh j h1 hbj d' hd'
                  · rw [Hb.out] at hbj; cases hbj
                case measure => simp [intOf]; omega
            · obtain rfl : N = k := by omega
              go_wp2
              go_roundg (2 * rankN known out N + ag.toNat)
              case measure =>
                have h1 := Hg2.out
                have h2 := HM.out
                cases ag
                · simp; omega
                · have h3 := HT.out rfl
                  simp; omega
              case rel => exact ⟨ag, known, out, rfl, hO, HR.out, HC.out, Nat.le_refl _⟩
end Go.Proofs.Ytinohfgokpbcdaa
