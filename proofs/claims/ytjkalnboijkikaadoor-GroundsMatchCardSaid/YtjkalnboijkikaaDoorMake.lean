/- Contract: field.Make, for any function value whose calls turn at most one old block, told by an invariant on that block. -/
import Derived.Test.YtjkalnboijkikaaDoorBaseC
import Derived.Deep.AppendLies
import Derived.Deep.DeepCutAuto
import Derived.Deep.RegionLaw
namespace Go.Proofs.YtjkalnboijkikaaDoor
open Go.RowKit
attribute [local go_sem ↓] Go.wp_at_zero Go.wp_at_succ

theorem Tryd.infoF32 : (Tryd.prog.info? 26).map (fun i => (i.zero, i.size, i.bytes)) = some (some (.float .f32 0), 1, 4) := by kernel_rfl

/-- make([]float32, 0, n) -/
theorem mk_f32 (n : Nat) (hn : n ≤ 262144) (w : World) : (Instr.makeSlice 45 (.int .i64 0) (.int .i64 (n : Int))).run Tryd.prog w =
    .ok (.slice (some ⟨w.heap.size, 0, none⟩) 0 n) (w.alloc (.cells (madeCells (Value.float .f32 0).cells (n * 1)) 26)) := by
  obtain ⟨i0, hi0, hz0, hz1, hz2⟩ := info_parts Tryd.infoF32
  have h := run_make (P := Tryd.prog) w 45 26 i0 (.float .f32 0) Tryd.underlying45 hi0 hz0 .i64 .i64 0 n (by omega) (by omega) (by rw [hz2]; omega) (by omega)
  rw [hz1] at h
  simpa using h

/-- Where Make stands when n values are made. -/
def MkInv (w : World) (x y : Int) (W H f r : Nat) (g : Nat → Nat) (I : Nat → Option Obj → Prop) (n : Nat) (wr : World) : Prop :=
  Bk wr w.heap.size 44 #[.int .i64 x, .int .i64 y, .int .i64 W, .int .i64 H] ∧ Bk wr (w.heap.size + 1) 47 #[.int .i64 0, .int .i64 0, .int .i64 0, .int .i64 0, .slice none 0 0] ∧
    ∃ A c, Bk wr f 47 #[.int .i64 x, .int .i64 y, .int .i64 W, .int .i64 H, .slice A n c] ∧ wr.ownsRow (w.heap.size + 2) 26 1 (.slice A n c) n (flt ((List.range n).map g)) ∧
      w.grownBy wr (some r) ∧ I n wr.heap[r]?

theorem mk_step {w wr w1 w2 : World} {x y : Int} {W H f r n cap cap' gg : Nat} {g : Nat → Nat} {I : Nat → Option Obj → Prop} {A : Option Addr} {o : Obj} (hr : r < w.heap.size) (hf : w.heap.size + 1 < f)
    (hB : Bk wr w.heap.size 44 #[.int .i64 x, .int .i64 y, .int .i64 W, .int .i64 H]) (hR : Bk wr (w.heap.size + 1) 47 #[.int .i64 0, .int .i64 0, .int .i64 0, .int .i64 0, .slice none 0 0])
    (hF : Bk wr f 47 #[.int .i64 x, .int .i64 y, .int .i64 W, .int .i64 H, .slice A n cap']) (hown : wr.ownsRow (w.heap.size + 2) 26 1 (.slice A n cap') n (flt ((List.range n).map g))) (hg : w.grownBy wr (some r))
    (hg1 : wr.drew.grownBy w1 (some r)) (hI1 : I (n + 1) w1.heap[r]?) (hgrow : (w1.alloc o).grownBy w2 (Value.slice A n cap').ownBlock)
    (hown2 : w2.ownsRow (w.heap.size + 2) 26 1 (.slice (some ⟨gg, 0, none⟩) (n + 1) cap) (n + 1) (flt ((List.range n).map g) ++ [.float .f32 (g n)])) :
    MkInv w x y W H f r g I (n + 1) (w2.setCell ⟨f, 4, none⟩ (.slice (some ⟨gg, 0, none⟩) (n + 1) cap)) := by
  have hb := hown.lt
  have b1 : Bk w1 w.heap.size 44 _ := hB.drew.grown hg1 (by simp; omega)
  have r1 : Bk w1 (w.heap.size + 1) 47 _ := hR.drew.grown hg1 (by simp; omega)
  have f1 : Bk w1 f 47 _ := hF.drew.grown hg1 (by simp; omega)
  have own1 := hown.drew.kept hg1 (.inr (fun e => by have := hb r e; omega))
  have g1 : w.grownBy w1 (some r) := grown_trans' (grown_drew' hg) hg1
  have b2 := (b1.alloc o).grown hgrow (own_ne own1 b1 (by decide))
  have r2 := (r1.alloc o).grown hgrow (own_ne own1 r1 (by decide))
  have f2 := (f1.alloc o).grown hgrow (own_ne own1 f1 (by decide))
  have g2 : w.grownBy w2 (some r) := grown_own (grown_alloc' g1 o) hgrow (fun k e => by have := hb k e; omega)
  refine ⟨b2.far (by simp; omega) _, r2.far (by simp; omega) _, some ⟨gg, 0, none⟩, cap, f2.set 4 _, ?_, grown_set' g2 (by simp; omega) _, ?_⟩
  · have h := ownsRow_setCell_other hown2 (a := ⟨f, 4, none⟩) (fun e => own_ne hown2 f2 (by decide) e.symm) (.slice (some ⟨gg, 0, none⟩) (n + 1) cap)
    simpa [flt, List.range_succ] using h
  · have hrl : r < w1.heap.size := by have := g1.size; omega
    have e1 : w2.heap[r]? = w1.heap[r]? := (hgrow.block r (by simp; omega) (fun e => by have := hb r e.symm; omega)).trans (Below.heap_alloc w1 o r hrl)
    rw [Below.heap_setCell _ _ _ _ (by simp; omega), e1]
    exact hI1

theorem mk_end {wr : World} {v : Value} {n c : Nat} {A : Option Addr} {base : Nat} {xs : List Value} {a : Addr}
    (hown : wr.ownsRow base 26 1 (.slice A n c) n xs) (ha : some a.block ≠ (Value.slice A n c).ownBlock) : (wr.setCell a v).ownsRow base 26 1 (.slice A n c) n xs :=
  ownsRow_setCell_other hown (fun e => ha e.symm) v

section
variable (x y : Int) (W H : Nat)
set_option maxHeartbeats 1600000 in
set_option maxRecDepth 100000 in
theorem make_any (hw1 : 1 ≤ W) (hw2 : W ≤ 512) (hh1 : 1 ≤ H) (hh2 : H ≤ 512) (hx : -4194304 ≤ x ∧ x + W ≤ 4194304) (hy : -4194304 ≤ y ∧ y + H ≤ 4194304)
    (F : FuncId) (hent : ∀ args w, (callFunc F args).run Tryd.prog w = .ok (.enter F args) w) (caps : Array Value) (g : Nat → Nat) (w : World) (r : Nat) (hr : r < w.heap.size) (I : Nat → Option Obj → Prop) (h0 : I 0 w.heap[r]?)
    (hcall : ∀ (j i : Nat) (w' : World), j < H → i < W → w.grownBy w' (some r) → I (j * W + i) w'.heap[r]? →
      Calls Tryd.prog F (#[.int .i64 (x + i), .int .i64 (y + j)] ++ caps) w' fun e w'' => e = .returned (.float .f32 (g (j * W + i))) ∧ w'.grownBy w'' (some r) ∧ I (j * W + i + 1) w''.heap[r]?) :
    Calls Tryd.prog 37 #[.agg #[.int .i64 x, .int .i64 y, .int .i64 W, .int .i64 H], .func (.func F) #[] caps] w fun e w' =>
      ∃ A c, e = .returned (.agg #[.int .i64 x, .int .i64 y, .int .i64 W, .int .i64 H, .slice A (H * W) c]) ∧
        w'.ownsRow (w.heap.size + 2) 26 1 (.slice A (H * W) c) (H * W) (flt ((List.range (H * W)).map g)) ∧ w.grownBy w' (some r) ∧ I (H * W) w'.heap[r]? := by
  obtain ⟨i0, hi0, hz0, hz1, hz2⟩ := info_parts Tryd.infoF32
  have Hc := hidA hcall
  clear hcall
  obtain ⟨p1, p2⟩ := prod_bd (A := 512) (B := 512) (by omega : (0:Int) ≤ (W:Int)) (by omega) (by omega : (0:Int) ≤ (H:Int)) (by omega)
  have hwr : IntKind.i64.wrap ((W : Int) * H) = (W : Int) * H := IntWalk.i64_in _ (by omega)
  have hp3 : W * H ≤ 262144 := by have : ((W * H : Nat) : Int) ≤ 262144 := by rw [Int.natCast_mul]; omega
                                  omega
  have hmk := mk_f32 (W * H) hp3
  simp only [Int.natCast_mul] at hmk
  go_enter Tryd.func37, Tryd.ntmps37
  go_upto_region 1 with fail
  go_cut [5] (fun s5 wx => ∃ f s : Nat, s5 = .pointer (some ⟨f, 0, none⟩) ∧ w.heap.size + 1 < f ∧ f ≠ s ∧ Bk wx w.heap.size 44 #[.int .i64 x, .int .i64 y, .int .i64 W, .int .i64 H] ∧ Bk wx (w.heap.size + 1) 47 #[.int .i64 0, .int .i64 0, .int .i64 0, .int .i64 0, .slice none 0 0] ∧
    Bk wx f 47 #[.int .i64 x, .int .i64 y, .int .i64 W, .int .i64 H, .slice (some ⟨s, 0, none⟩) 0 (W * H)] ∧ wx.ownsRow (w.heap.size + 2) 26 1 (.slice (some ⟨s, 0, none⟩) 0 (W * H)) 0 [] ∧ Ext w wx)
  case first =>
    go_region_held3 (fun w' => w'.cell? ⟨w.heap.size, 0, none⟩ = some (.int .i64 x) ∧ w'.cell? ⟨w.heap.size, 1, none⟩ = some (.int .i64 y) ∧ w'.cell? ⟨w.heap.size, 2, none⟩ = some (.int .i64 W) ∧ w'.cell? ⟨w.heap.size, 3, none⟩ = some (.int .i64 H)) (go_keep) (first | fail)
    all_goals (go_wp2_with fail; go_meet)
    case rel => 
      refine ⟨w.heap.size + 3, w.heap.size + 2, rfl, by omega, by omega, ?_, ?_, ?_, ?_, ?_⟩
      · repeat (first | exact Bk.new' (by simp) | refine Bk.alloc ?_ _ | refine Bk.drew ?_)
      · repeat (first | exact Bk.new' (by simp) | refine Bk.alloc ?_ _ | refine Bk.drew ?_)
      · repeat (first | exact Bk.new' (by simp) | refine Bk.alloc ?_ _ | refine Bk.drew ?_)
      · have hsz : (madeCells (Value.float .f32 0).cells (W * H)).size = W * H * 1 := by simp [madeCells]
        first | exact own_made' (by simp) _ _ (by simp) (by unfold maxLen; omega) hsz | exact (own_made' (by simp) _ _ (by simp) (by unfold maxLen; omega) hsz).alloc _
      · repeat (first | exact Ext.refl _ | refine Ext.alloc ?_ _ | refine Ext.drew ?_)
    case rel => 
      refine ⟨w.heap.size + 2, w.heap.size + 3, rfl, by omega, by omega, ?_, ?_, ?_, ?_, ?_⟩
      · repeat (first | exact Bk.new' (by simp) | refine Bk.alloc ?_ _ | refine Bk.drew ?_)
      · repeat (first | exact Bk.new' (by simp) | refine Bk.alloc ?_ _ | refine Bk.drew ?_)
      · repeat (first | exact Bk.new' (by simp) | refine Bk.alloc ?_ _ | refine Bk.drew ?_)
      · have hsz : (madeCells (Value.float .f32 0).cells (W * H)).size = W * H * 1 := by simp [madeCells]
        first | exact own_made' (by simp) _ _ (by simp) (by unfold maxLen; omega) hsz | exact (own_made' (by simp) _ _ (by simp) (by unfold maxLen; omega) hsz).alloc _
      · repeat (first | exact Ext.refl _ | refine Ext.alloc ?_ _ | refine Ext.drew ?_)
  case rest =>
    obtain ⟨f, s, rfl, hf1, hfs, hB, hR, hF, hown, hx0⟩ := hcut
    have hM : MkInv w x y W H f r g I 0 wc := ⟨hB, hR, some ⟨s, 0, none⟩, W * H, hF, by simpa [flt] using hown, grown_ext hx0 _, by rw [show wc.heap[r]? = w.heap[r]? from hx0.block r hr]; exact h0⟩
    have c1 : wc.cell? ⟨w.heap.size, 1, none⟩ = some (.int .i64 y) := hB.cell 1
    clear hB hR hF hown hx0 h0 hfs
    go_wp2
    go_loopw [6] (fun s6 wr => ∃ j : Nat, j ≤ H ∧ s6 = .int .i64 (y + j) ∧ MkInv w x y W H f r g I (j * W) wr) (fun s6 _ => H - (intOf s6 - y).toNat)
    case atStart => exact ⟨0, Nat.zero_le _, by simp, by simpa using hM⟩
    case round =>
      obtain ⟨j, hj, rfl, hJ⟩ := hrel
      have c0 : wr.cell? ⟨w.heap.size, 0, none⟩ = some (.int .i64 x) := hJ.1.cell 0
      have c1 : wr.cell? ⟨w.heap.size, 1, none⟩ = some (.int .i64 y) := hJ.1.cell 1
      have c3 : wr.cell? ⟨w.heap.size, 3, none⟩ = some (.int .i64 H) := hJ.1.cell 3
      clear hM
      by_cases hlt : j < H
      · go_wp2
        go_loopw [7] (fun s7 wr => ∃ i : Nat, i ≤ W ∧ s7 = .int .i64 (x + i) ∧ MkInv w x y W H f r g I (j * W + i) wr) (fun s7 _ => W - (intOf s7 - x).toNat)
        case atStart => exact ⟨0, Nat.zero_le _, by simp, by simpa using hJ⟩
        case round =>
          rename_i wo _ _
          obtain ⟨i, hi, rfl, hK⟩ := hrel
          clear hJ c0 c1 c3
          have c0 : wr.cell? ⟨w.heap.size, 0, none⟩ = some (.int .i64 x) := hK.1.cell 0
          have c2 : wr.cell? ⟨w.heap.size, 2, none⟩ = some (.int .i64 W) := hK.1.cell 2
          by_cases hlt2 : i < W
          · obtain ⟨hB, hR, A, c, hF, hown, hg, hI⟩ := hK
            have c4 : wr.cell? ⟨f, 4, none⟩ = some (.slice A (j * W + i) c) := hF.cell 4
            have f4 : wr.frozen? ⟨f, 4, none⟩ = false := hF.frozen 4
            have hjw : j * W + i + 1 ≤ 262144 := by have := Nat.mul_le_mul (show j ≤ 511 by omega) hw2; omega
            go_wp2
            go_region_law (first
                | ((go_simp; refine (Hc.out j i _ hlt hlt2 (grown_drew' hg) hI).mono ?_; rintro e w1 ⟨rfl, hg1, hI1⟩; have hF1 := hF.drew.grown hg1 (by simp; omega); have hl1 := hF1.lt; have d4 : w1.cell? ⟨f, 4, none⟩ = some (.slice A (j * W + i) c) := hF1.cell 4; have d5 : w1.frozen? ⟨f, 4, none⟩ = false := hF1.frozen 4; have hown1 := hown.drew.kept hg1 (.inr (fun e => by have := hown.lt r e; omega)); have hne := own_ne hown1 hF1 (by decide)))
                | ((refine step_append_lies _ (by rfl) _ _ _ (by rfl) (w.heap.size + 2) 26 i0 _ 1 4 Tryd.underlying45 hi0 hz0 hz1 hz2 rfl (by omega) _ _ _ (by rfl) (hown1.alloc _) ⟨w1.heap.size, 0, none⟩ 1 1 [.float .f32 (g (j * W + i))] (by rfl) (by rfl) (World.news_of_block (cs := #[.float .f32 (g (j * W + i))]) (t := 26) (fr := (0, 0)) (heap_alloc_new w1 _)) (by simp [Value.oneCell']) (by omega) (by unfold maxLen; omega) (by omega) (by simp; omega) (w1.heap.size + 1) (by simp) ?_; intro gg cap w2 hown2 hgrow hat hltg; have hF2 := (hF1.alloc _).grown hgrow hne; have d6 : w2.frozen? ⟨f, 4, none⟩ = false := hF2.frozen 4; have d7 : w2.cell? ⟨f, 4, none⟩ = some (.slice A (j * W + i) c) := hF2.cell 4)))
            all_goals
              go_wp2
              exact ⟨⟨i + 1, by omega, by rw [show x + (i : Int) + 1 = x + ((i + 1 : Nat) : Int) from by omega], mk_step hr hf1 hB hR hF hown hg hg1 hI1 hgrow hown2⟩, by simp [intOf]; omega⟩
          · obtain rfl : i = W := by omega
            go_wp2
            exact ⟨⟨j + 1, by omega, by rw [show y + (j : Int) + 1 = y + ((j + 1 : Nat) : Int) from by omega], by rw [Nat.succ_mul]; exact hK⟩, by simp [intOf]; omega⟩
      · obtain rfl : j = H := by omega
        obtain ⟨hB, hR, A, c, hF, hown, hg, hI⟩ := hJ
        have d0 : wr.cell? ⟨f, 0, none⟩ = some (.int .i64 x) := hF.cell 0
        have d1 : wr.cell? ⟨f, 1, none⟩ = some (.int .i64 y) := hF.cell 1
        have d2 : wr.cell? ⟨f, 2, none⟩ = some (.int .i64 W) := hF.cell 2
        have d3 : wr.cell? ⟨f, 3, none⟩ = some (.int .i64 j) := hF.cell 3
        have d4 : wr.cell? ⟨f, 4, none⟩ = some (.slice A (j * W) c) := hF.cell 4
        have e0 : wr.cell? ⟨w.heap.size + 1, 0, none⟩ = some (.int .i64 0) := hR.cell 0
        have e1 : wr.cell? ⟨w.heap.size + 1, 1, none⟩ = some (.int .i64 0) := hR.cell 1
        have e2 : wr.cell? ⟨w.heap.size + 1, 2, none⟩ = some (.int .i64 0) := hR.cell 2
        have e3 : wr.cell? ⟨w.heap.size + 1, 3, none⟩ = some (.int .i64 0) := hR.cell 3
        have e4 : wr.cell? ⟨w.heap.size + 1, 4, none⟩ = some (.slice none 0 0) := hR.cell 4
        have k0 : wr.frozen? ⟨w.heap.size + 1, 0, none⟩ = false := hR.frozen 0
        have k1 : wr.frozen? ⟨w.heap.size + 1, 1, none⟩ = false := hR.frozen 1
        have k2 : wr.frozen? ⟨w.heap.size + 1, 2, none⟩ = false := hR.frozen 2
        have k3 : wr.frozen? ⟨w.heap.size + 1, 3, none⟩ = false := hR.frozen 3
        have k4 : wr.frozen? ⟨w.heap.size + 1, 4, none⟩ = false := hR.frozen 4
        go_wp2
        refine bodyPost_ret (v := .agg #[.int .i64 x, .int .i64 y, .int .i64 W, .int .i64 j, .slice A (j * W) c]) (by simp [results, Tryd.results37, go_sem, e0, e1, e2, e3, e4]) rfl ⟨A, c, rfl, ?_, ?_, ?_⟩
        · have hne := own_ne hown hR (by decide)
          exact mk_end (mk_end (mk_end (mk_end (mk_end hown hne) hne) hne) hne) hne
        · exact grown_set' (grown_set' (grown_set' (grown_set' (grown_set' hg (by simp) _) (by simp) _) (by simp) _) (by simp) _) (by simp) _
        · rw [Below.heap_setCell _ _ _ _ (by simp; omega), Below.heap_setCell _ _ _ _ (by simp; omega), Below.heap_setCell _ _ _ _ (by simp; omega), Below.heap_setCell _ _ _ _ (by simp; omega), Below.heap_setCell _ _ _ _ (by simp; omega)]
          exact hI
end
end Go.Proofs.YtjkalnboijkikaaDoor
