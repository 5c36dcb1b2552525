/- Contract: tarnref2.SteepOf. -/
import Derived.Test.YtinohfgokpbcdaaSteepB
namespace Go.Proofs.Ytinohfgokpbcdaa
open Go.RowKit
attribute [local go_sem ↓] Go.wp_at_zero Go.wp_at_succ
attribute [local go_sem] run_store_float

theorem flo_congr {N : Nat} {f g : Nat → Nat} (h : ∀ k, k < N → f k = g k) : flo N f = flo N g := by
  unfold flo
  congr 1
  exact List.map_congr_left fun k hk => by rw [h k (List.mem_range.1 hk)]
/-- what SteepOf holds in memory -/
structure SO (W0 w : World) (hr gi gf : Nat) (X Y : Int) (Wn Hn N : Nat) (I : Nat → Int) (F : Nat → Nat) : Prop where
  rb : Bk w hr 23 #[.int .i64 X, .int .i64 Y, .int .i64 (Wn : Int), .int .i64 (Hn : Int)]
  ib : Bk w gi 3 (intB N I)
  fb : Bk w gf 27 (flo N F)
  ext : Ext W0 w
  b1 : W0.heap.size ≤ gi
  b2 : W0.heap.size ≤ gf
section
variable {W0 w : World} {hr gi gf : Nat} {X Y : Int} {Wn Hn N : Nat} {I : Nat → Int} {F : Nat → Nat}
theorem SO.step (h : SO W0 w hr gi gf X Y Wn Hn N I F) {w' : World} (hx : Ext w w') : SO W0 w' hr gi gf X Y Wn Hn N I F := ⟨h.rb.ext hx, h.ib.ext hx, h.fb.ext hx, h.ext.trans hx, h.b1, h.b2⟩
theorem SO.putI (h : SO W0 w hr gi gf X Y Wn Hn N I F) (k : Nat) (x : Int) : SO W0 (w.setCell ⟨gi, k, none⟩ (.int .i64 x)) hr gi gf X Y Wn Hn N (updF I k x) F := by
  have e1 := Bk.set h.ib k (.int .i64 x)
  rw [intB_set] at e1
  exact ⟨h.rb.far (Bk.ne h.rb h.ib (by decide)) _, e1, h.fb.far (Bk.ne h.fb h.ib (by decide)) _, h.ext.setCell h.b1 _, h.b1, h.b2⟩
theorem SO.putF (h : SO W0 w hr gi gf X Y Wn Hn N I F) (k x : Nat) : SO W0 (w.setCell ⟨gf, k, none⟩ (.float .f32 x)) hr gi gf X Y Wn Hn N I (updF F k x) := by
  have e1 := Bk.set h.fb k (.float .f32 x)
  rw [flo_set] at e1
  exact ⟨h.rb.far (Bk.ne h.rb h.fb (by decide)) _, h.ib.far (Bk.ne h.ib h.fb (by decide)) _, e1, h.ext.setCell h.b2 _, h.b1, h.b2⟩
end
/-- the first k cells are right, the others hold no drop -/
def SOk (v : Nat → Nat) (Wn Hn k : Nat) (I : Nat → Int) (F : Nat → Nat) : Prop := (∀ j, j < k → I j = (stp v Wn Hn j 8).1 ∧ F j = (stp v Wn Hn j 8).2) ∧ ∀ j, k ≤ j → F j = 0
def SOd (v : Nat → Nat) (Wn Hn k d : Nat) (I : Nat → Int) (F : Nat → Nat) : Prop := (∀ j, j < k → I j = (stp v Wn Hn j 8).1 ∧ F j = (stp v Wn Hn j 8).2) ∧ (∀ j, k < j → F j = 0) ∧ I k = (stp v Wn Hn k d).1 ∧ F k = (stp v Wn Hn k d).2
theorem SOk.start (v : Nat → Nat) (Wn Hn : Nat) (I : Nat → Int) : SOk v Wn Hn 0 I (fun _ => 0) := ⟨fun j h => by omega, fun _ _ => rfl⟩
theorem SOk.enter {v : Nat → Nat} {Wn Hn k : Nat} {I : Nat → Int} {F : Nat → Nat} (h : SOk v Wn Hn k I F) : SOd v Wn Hn k 0 (updF I k (-1)) F := by
  refine ⟨fun j hj => ?_, fun j hj => h.2 j (by omega), by simp [updF, stp], ?_⟩
  · have : updF I k (-1) j = I j := by unfold updF; rw [if_neg (by omega)]
    rw [this]
    exact h.1 j hj
  · rw [h.2 k (by omega)]
    rfl
theorem SOd.leave {v : Nat → Nat} {Wn Hn k : Nat} {I : Nat → Int} {F : Nat → Nat} (h : SOd v Wn Hn k 8 I F) : SOk v Wn Hn (k + 1) I F := by
  refine ⟨fun j hj => ?_, fun j hj => h.2.1 j (by omega)⟩
  by_cases e : j = k
  · subst e
    exact h.2.2
  · exact h.1 j (by omega)
theorem SOd.none {v : Nat → Nat} {Wn Hn k d : Nat} {I : Nat → Int} {F : Nat → Nat} (h : SOd v Wn Hn k d I F) (hn : nbr Wn Hn k d = none) : SOd v Wn Hn k (d + 1) I F := by
  unfold SOd
  rw [stp_none hn]
  exact h
theorem SOd.same {v : Nat → Nat} {Wn Hn k d n : Nat} {I : Nat → Int} {F : Nat → Nat} (h : SOd v Wn Hn k d I F) (hn : nbr Wn Hn k d = some n) (hg : gt (dropF v k n d) (F k) = false) : SOd v Wn Hn k (d + 1) I F := by
  rw [h.2.2.2] at hg
  unfold SOd
  rw [stp_some hn, if_neg (by rw [hg]; decide)]
  exact h
theorem SOd.more {v : Nat → Nat} {Wn Hn k d n : Nat} {I : Nat → Int} {F : Nat → Nat} (h : SOd v Wn Hn k d I F) (hn : nbr Wn Hn k d = some n) (hg : gt (dropF v k n d) (F k) = true) : SOd v Wn Hn k (d + 1) (updF I k d) (updF F k (dropF v k n d)) := by
  rw [h.2.2.2] at hg
  unfold SOd
  rw [stp_some hn, if_pos hg]
  refine ⟨fun j hj => ?_, fun j hj => ?_, by simp [updF], by simp [updF]⟩
  · have e1 : updF I k d j = I j := by unfold updF; rw [if_neg (by omega)]
    have e2 : updF F k (dropF v k n d) j = F j := by unfold updF; rw [if_neg (by omega)]
    rw [e1, e2]
    exact h.1 j hj
  · have e2 : updF F k (dropF v k n d) j = F j := by unfold updF; rw [if_neg (by omega)]
    rw [e2]
    exact h.2.1 j hj

set_option maxRecDepth 100000 in
set_option maxHeartbeats 6400000 in
theorem SteepOf_any (X Y : Int) (Wn Hn N : Nat) (A : Option Addr) (c : Nat) (l : List Nat) (w : World) (hr : Reg X Y Wn Hn) (hN : N = Wn * Hn) (hl : l.length = N) (hV : Rd w A (flt l)) (hh : ∀ j, j < N → Bd 20 (l.getD j 0)) :
    Calls Try.prog 37 #[rgv X Y Wn Hn, .slice A N c] w fun e w' => ∃ gi gf, e = .returned (.tuple #[.slice (some ⟨gi, 0, none⟩) N N, .slice (some ⟨gf, 0, none⟩) N N]) ∧
      Bk w' gi 3 (intB N fun k => (stp (fun j => l.getD j 0) Wn Hn k 8).1) ∧ Bk w' gf 27 (flo N fun k => (stp (fun j => l.getD j 0) Wn Hn k 8).2) ∧ Ext w w' := by
  have hN6 : N ≤ 65536 := by rw [hN]; exact hr.n
  have mi := mk_int N (by omega)
  have mf := mk_flo N (by omega)
  have HD := fun (k d : Nat) (wa : World) (hk : k < N) (hd : d < 8) (hx : Ext w wa) => hidA (drop_any X Y Wn Hn N k d A c l wa hr hN hl (hV.ext hx) hh hk hd)
  clear hr hN hl hh hV
  unfold rgv at HD ⊢
  go_enter Try.func37, Try.ntmps37
  go_upto_region 1 with fail
  go_region
  · obtain ⟨w1, hw1⟩ : ∃ w1, w1 = (((w.alloc (.cells #[.int .i64 X, .int .i64 Y, .int .i64 (Wn : Int), .int .i64 (Hn : Int)] 23)).alloc (.cells (intB N fun _ => 0) 3)).alloc (.cells (flo N fun _ => 0) 27)).drew := ⟨_, rfl⟩
    have hS : SO w w1 w.heap.size (w.heap.size + 1) (w.heap.size + 1 + 1) X Y Wn Hn N (fun _ => 0) (fun _ => 0) := by
      rw [hw1]
      refine ⟨?_, ?_, ?_, ?_, by omega, by omega⟩
      · refine Bk.drew (((Bk.new' ?_).alloc _).alloc _)
        simp
      · refine Bk.drew ((Bk.new' ?_).alloc _)
        simp
      · refine Bk.drew (Bk.new' ?_)
        simp
      · exact ((((Ext.refl w).alloc _).alloc _).alloc _).drew
    rw [← hw1]
    clear hw1
    generalize w.heap.size + 1 + 1 = gf at *
    generalize w.heap.size + 1 = gi at *
    generalize hrx : w.heap.size = hrr at hS ⊢
    clear hrx
    have HK := hidA (SOk.start (fun j => l.getD j 0) Wn Hn (fun _ => 0))
    go_wp2
    go_loopw [20] (fun s20 wr => ∃ (k : Nat) (I : Nat → Int) (F : Nat → Nat), k ≤ N ∧ s20 = .int .i64 k ∧ SO w wr hrr gi gf X Y Wn Hn N I F ∧ SOk (fun j => l.getD j 0) Wn Hn k I F) (fun s20 _ => N - (intOf s20).toNat)
    case atStart => exact ⟨0, _, _, Nat.zero_le _, rfl, hS, HK.out⟩
    case round =>
      clear hS HK
      obtain ⟨k, I, F, hk, rfl, hS, hK⟩ := hrel
      have HK := hidA hK
      clear hK
      by_cases hkN : k < N
      · have i0 : (0 : Int) ≤ k := by omega
        have i1 : (k : Int) < N := by omega
        have e0 : wr.cell? ⟨gi, k, none⟩ = some (.int .i64 (I k)) := by rw [hS.ib.cell]; exact intB_get _ hkN
        have e1 := hS.ib.frozen k
        have hS2 := hS.putI k (-1)
        have HK2 := hidA HK.out.enter
        clear HK
        go_upto_region 6 with fail
        clear hS e0 e1
        generalize wr.setCell ⟨gi, k, none⟩ (.int .i64 (-1)) = w2 at *
        generalize updF I k (-1) = I2 at *
        go_wp2
        go_loopw [26] (fun s26 wr => ∃ (d : Nat) (I : Nat → Int) (F : Nat → Nat), d ≤ 8 ∧ s26 = .int .i64 d ∧ SO w wr hrr gi gf X Y Wn Hn N I F ∧ SOd (fun j => l.getD j 0) Wn Hn k d I F) (fun s26 _ => 8 - (intOf s26).toNat)
        case atStart => exact ⟨0, _, _, by omega, rfl, hS2, HK2.out⟩
        case round =>
          clear hS2 HK2
          obtain ⟨d, I3, F3, hd, rfl, hS, hK⟩ := hrel
          have HK := hidA hK
          clear hK
          by_cases hd8 : d < 8
          · have c0 := hS.rb.cell 0
            have c1 := hS.rb.cell 1
            have c2 := hS.rb.cell 2
            have c3 := hS.rb.cell 3
            have HD2 := hidA (HD k d _ hkN hd8 hS.ext).out
            unfold dropV at HD2
            cases hn : nbr Wn Hn k d with
            | none =>
              have Hn' := hidA hn
              rw [hn] at HD2
              clear hn HD
              simp only [] at HD2
              go_wp2_with (go_at_call 93; refine (HD2.out).mono ?_; rintro e w3 ⟨rfl, hx3⟩)
              go_roundw
              case rel => exact ⟨d + 1, _, _, by omega, by go_num, hS.step hx3, HK.out.none Hn'.out⟩
              case measure => simp [intOf]; omega
            | some n =>
              have Hn' := hidA hn
              rw [hn] at HD2
              clear hn HD
              simp only [] at HD2
              obtain ⟨x, hx⟩ : ∃ x, x = dropF (fun j => l.getD j 0) k n d := ⟨_, rfl⟩
              rw [← hx] at HD2
              have Hx := hidA hx
              clear hx
              go_upto_region 10 with (go_at_call 93; refine (HD2.out).mono ?_; rintro e w3 ⟨rfl, hx3⟩)
              have hS3 := hS.step hx3
              clear c0 c1 c2 c3 hS hx3 HD2
              have f0 : w3.cell? ⟨gf, k, none⟩ = some (.float .f32 (F3 k)) := by rw [hS3.fb.cell]; exact flo_get _ hkN
              have f1 := hS3.fb.frozen k
              have e0 : w3.cell? ⟨gi, k, none⟩ = some (.int .i64 (I3 k)) := by rw [hS3.ib.cell]; exact intB_get _ hkN
              have e1 := hS3.ib.frozen k
              cases hg : gt x (F3 k)
              · have hg' : (FloatKind.f32.format.order x (F3 k) == some .gt) = false := hg
                rw [Hx.out] at hg
                have HK3 := hidA (HK.out.same Hn'.out hg)
                clear hg HK
                go_wp2
                go_roundw
                case rel => exact ⟨d + 1, _, _, by omega, by go_num, hS3, HK3.out⟩
                case measure => simp [intOf]; omega
              · have hg' : (FloatKind.f32.format.order x (F3 k) == some .gt) = true := hg
                rw [Hx.out] at hg
                have HK3 := hidA (HK.out.more Hn'.out hg)
                clear hg HK
                rw [← Hx.out] at HK3
                have hP := hidA ((hS3.putI k d).putF k x)
                have hgf : gf ≠ gi := Bk.ne hS3.fb hS3.ib (by decide)
                have f2 : (w3.setCell ⟨gi, k, none⟩ (.int .i64 (d : Int))).cell? ⟨gf, k, none⟩ = some (.float .f32 (F3 k)) := by rw [(hS3.fb.far (p := ⟨gi, k, none⟩) hgf (.int .i64 d)).cell]; exact flo_get _ hkN
                have f3 := (hS3.fb.far (p := ⟨gi, k, none⟩) hgf (.int .i64 d)).frozen k
                clear hS3
                go_wp2
                go_roundw
                case rel => exact ⟨d + 1, _, _, by omega, by go_num, hP.out, HK3.out⟩
                case measure => simp [intOf]; omega
          · have hd' : d = 8 := by omega
            subst hd'
            have HK3 := hidA HK.out.leave
            clear HK
            go_wp2
            go_roundw
            case rel => exact ⟨k + 1, _, _, by omega, by go_num, hS, HK3.out⟩
            case measure => simp [intOf]; omega
      · have hkN' : k = N := by omega
        subst hkN'
        go_wp2
        go_ret2
        refine ⟨gi, gf, rfl, ?_, ?_, hS.ext⟩
        · rw [← intB_congr fun j hj => (HK.out.1 j hj).1]
          exact hS.ib
        · rw [← flo_congr fun j hj => (HK.out.1 j hj).2]
          exact hS.fb
  · obtain ⟨w1, hw1⟩ : ∃ w1, w1 = (((w.alloc (.cells #[.int .i64 X, .int .i64 Y, .int .i64 (Wn : Int), .int .i64 (Hn : Int)] 23)).alloc (.cells (flo N fun _ => 0) 27)).alloc (.cells (intB N fun _ => 0) 3)).drew := ⟨_, rfl⟩
    have hS : SO w w1 w.heap.size (w.heap.size + 1 + 1) (w.heap.size + 1) X Y Wn Hn N (fun _ => 0) (fun _ => 0) := by
      rw [hw1]
      refine ⟨?_, ?_, ?_, ?_, by omega, by omega⟩
      · refine Bk.drew (((Bk.new' ?_).alloc _).alloc _)
        simp
      · refine Bk.drew (Bk.new' ?_)
        simp
      · refine Bk.drew ((Bk.new' ?_).alloc _)
        simp
      · exact ((((Ext.refl w).alloc _).alloc _).alloc _).drew
    rw [← hw1]
    clear hw1
    generalize w.heap.size + 1 + 1 = gi at *
    generalize w.heap.size + 1 = gf at *
    generalize hrx : w.heap.size = hrr at hS ⊢
    clear hrx
    have HK := hidA (SOk.start (fun j => l.getD j 0) Wn Hn (fun _ => 0))
    go_wp2
    go_loopw [20] (fun s20 wr => ∃ (k : Nat) (I : Nat → Int) (F : Nat → Nat), k ≤ N ∧ s20 = .int .i64 k ∧ SO w wr hrr gi gf X Y Wn Hn N I F ∧ SOk (fun j => l.getD j 0) Wn Hn k I F) (fun s20 _ => N - (intOf s20).toNat)
    case atStart => exact ⟨0, _, _, Nat.zero_le _, rfl, hS, HK.out⟩
    case round =>
      clear hS HK
      obtain ⟨k, I, F, hk, rfl, hS, hK⟩ := hrel
      have HK := hidA hK
      clear hK
      by_cases hkN : k < N
      · have i0 : (0 : Int) ≤ k := by omega
        have i1 : (k : Int) < N := by omega
        have e0 : wr.cell? ⟨gi, k, none⟩ = some (.int .i64 (I k)) := by rw [hS.ib.cell]; exact intB_get _ hkN
        have e1 := hS.ib.frozen k
        have hS2 := hS.putI k (-1)
        have HK2 := hidA HK.out.enter
        clear HK
        go_upto_region 6 with fail
        clear hS e0 e1
        generalize wr.setCell ⟨gi, k, none⟩ (.int .i64 (-1)) = w2 at *
        generalize updF I k (-1) = I2 at *
        go_wp2
        go_loopw [26] (fun s26 wr => ∃ (d : Nat) (I : Nat → Int) (F : Nat → Nat), d ≤ 8 ∧ s26 = .int .i64 d ∧ SO w wr hrr gi gf X Y Wn Hn N I F ∧ SOd (fun j => l.getD j 0) Wn Hn k d I F) (fun s26 _ => 8 - (intOf s26).toNat)
        case atStart => exact ⟨0, _, _, by omega, rfl, hS2, HK2.out⟩
        case round =>
          clear hS2 HK2
          obtain ⟨d, I3, F3, hd, rfl, hS, hK⟩ := hrel
          have HK := hidA hK
          clear hK
          by_cases hd8 : d < 8
          · have c0 := hS.rb.cell 0
            have c1 := hS.rb.cell 1
            have c2 := hS.rb.cell 2
            have c3 := hS.rb.cell 3
            have HD2 := hidA (HD k d _ hkN hd8 hS.ext).out
            unfold dropV at HD2
            cases hn : nbr Wn Hn k d with
            | none =>
              have Hn' := hidA hn
              rw [hn] at HD2
              clear hn HD
              simp only [] at HD2
              go_wp2_with (go_at_call 93; refine (HD2.out).mono ?_; rintro e w3 ⟨rfl, hx3⟩)
              go_roundw
              case rel => exact ⟨d + 1, _, _, by omega, by go_num, hS.step hx3, HK.out.none Hn'.out⟩
              case measure => simp [intOf]; omega
            | some n =>
              have Hn' := hidA hn
              rw [hn] at HD2
              clear hn HD
              simp only [] at HD2
              obtain ⟨x, hx⟩ : ∃ x, x = dropF (fun j => l.getD j 0) k n d := ⟨_, rfl⟩
              rw [← hx] at HD2
              have Hx := hidA hx
              clear hx
              go_upto_region 10 with (go_at_call 93; refine (HD2.out).mono ?_; rintro e w3 ⟨rfl, hx3⟩)
              have hS3 := hS.step hx3
              clear c0 c1 c2 c3 hS hx3 HD2
              have f0 : w3.cell? ⟨gf, k, none⟩ = some (.float .f32 (F3 k)) := by rw [hS3.fb.cell]; exact flo_get _ hkN
              have f1 := hS3.fb.frozen k
              have e0 : w3.cell? ⟨gi, k, none⟩ = some (.int .i64 (I3 k)) := by rw [hS3.ib.cell]; exact intB_get _ hkN
              have e1 := hS3.ib.frozen k
              cases hg : gt x (F3 k)
              · have hg' : (FloatKind.f32.format.order x (F3 k) == some .gt) = false := hg
                rw [Hx.out] at hg
                have HK3 := hidA (HK.out.same Hn'.out hg)
                clear hg HK
                go_wp2
                go_roundw
                case rel => exact ⟨d + 1, _, _, by omega, by go_num, hS3, HK3.out⟩
                case measure => simp [intOf]; omega
              · have hg' : (FloatKind.f32.format.order x (F3 k) == some .gt) = true := hg
                rw [Hx.out] at hg
                have HK3 := hidA (HK.out.more Hn'.out hg)
                clear hg HK
                rw [← Hx.out] at HK3
                have hP := hidA ((hS3.putI k d).putF k x)
                have hgf : gf ≠ gi := Bk.ne hS3.fb hS3.ib (by decide)
                have f2 : (w3.setCell ⟨gi, k, none⟩ (.int .i64 (d : Int))).cell? ⟨gf, k, none⟩ = some (.float .f32 (F3 k)) := by rw [(hS3.fb.far (p := ⟨gi, k, none⟩) hgf (.int .i64 d)).cell]; exact flo_get _ hkN
                have f3 := (hS3.fb.far (p := ⟨gi, k, none⟩) hgf (.int .i64 d)).frozen k
                clear hS3
                go_wp2
                go_roundw
                case rel => exact ⟨d + 1, _, _, by omega, by go_num, hP.out, HK3.out⟩
                case measure => simp [intOf]; omega
          · have hd' : d = 8 := by omega
            subst hd'
            have HK3 := hidA HK.out.leave
            clear HK
            go_wp2
            go_roundw
            case rel => exact ⟨k + 1, _, _, by omega, by go_num, hS, HK3.out⟩
            case measure => simp [intOf]; omega
      · have hkN' : k = N := by omega
        subst hkN'
        go_wp2
        go_ret2
        refine ⟨gi, gf, rfl, ?_, ?_, hS.ext⟩
        · rw [← intB_congr fun j hj => (HK.out.1 j hj).1]
          exact hS.ib
        · rw [← flo_congr fun j hj => (HK.out.1 j hj).2]
          exact hS.fb
end Go.Proofs.Ytinohfgokpbcdaa
