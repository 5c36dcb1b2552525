/- Contract: ground.way: the way of tight steps to a cell. -/
import Derived.Test.YtpgdinpckolfpaaRdM
import Derived.Test.YtpgdinpckolfpaaRdN
namespace Go.Proofs.Ytpgdinpckolfpaa
open Go.RowKit
attribute [local go_sem ↓] Go.wp_at_zero Go.wp_at_succ
attribute [local go_sem] run_store_float

theorem infoPt : (Try.prog.info? 32).map (fun i => (i.zero, i.size, i.bytes)) = some (some (.agg #[.int .i64 0, .int .i64 0]), 2, 16) := by kernel_rfl
/-- places of the call's own -/
def OwnP (w : World) (base : Nat) (v : Value) (xs : List (Int × Int)) : Prop := w.ownsRow base 32 2 v xs.length (ptv xs)
theorem OwnP.ext {w w' : World} {base : Nat} {v : Value} {xs : List (Int × Int)} (h : OwnP w base v xs) (hx : Ext w w') : OwnP w' base v xs := World.ownsRow.kept h (grown_ext hx none) (by cases h : v.ownBlock <;> simp)
theorem OwnP.form {w : World} {base : Nat} {v : Value} {xs : List (Int × Int)} (h : OwnP w base v xs) (hn : 0 < xs.length) : ∃ g cap rest, v = .slice (some ⟨g, 0, none⟩) xs.length cap ∧ base ≤ g ∧ PB w g xs rest ∧ xs.length ≤ cap := by
  rcases h.2 with ⟨_, h2⟩ | ⟨g, cap, cur, hv, hbg, hh, h3, h4, h5, h6⟩
  · omega
  · refine ⟨g, cap, cur.toList.drop (xs.length * 2), hv, hbg, ?_, h3⟩
    unfold PB Bk
    rw [← h6, List.take_append_drop, Array.toArray_toList]
    exact hh
/-- the place of a cell -/
def cpt (X Y : Int) (Wn k : Nat) : Int × Int := (X + ((k % Wn : Nat) : Int), Y + ((k / Wn : Nat) : Int))
/-- what way returns -/
def WayPost (R : RlR) (l : List Nat) (X Y : Int) (Wn Hn N : Nat) (H : Nat → Int) (P : Nat → Nat) (tq : Nat) (w : World) (e : Ending) (w' : World) : Prop := ∃ (xs : List Nat) (g cap : Nat), Chain R (fun j => l.getD j 0) Wn Hn N H P tq xs ∧ xs.length ≤ N ∧
  e = .returned (.slice (some ⟨g, 0, none⟩) xs.length cap) ∧ w.heap.size ≤ g ∧ Rd w' (some ⟨g, 0, none⟩) (ptv (xs.reverse.map (cpt X Y Wn))) ∧ Ext w w' ∧ xs.length ≤ cap ∧ 1 ≤ xs.length
set_option maxRecDepth 100000 in
set_option maxHeartbeats 6400000 in
theorem way_any (X Y : Int) (Wn Hn : Nat) (A : Option Addr) (N c : Nat) (R : RlR) (C : Option Addr) (m cc src go gs tq : Nat) (l : List Nat) (P : Nat → Nat) (seen : Nat → Bool) (w : World)
    (hr : Reg X Y Wn Hn) (hN : N = Wn * Hn) (hR : RlOk R N) (hl : l.length = N) (hh : ∀ j, j < N → Bd 20 (l.getD j 0)) (hs : src < N) (hto : tq < N) (hV : Rd w A (flt l)) (hC : CoR w C m R.co) (hP : PrOk N (edA R (fun j => l.getD j 0) Wn Hn N) src seen P) (hgo : Bk w go 27 (flo N P)) :
    Calls Try.prog 72 #[.agg (gcells X Y Wn Hn A N c R C m cc), .agg #[.int .i64 src, .slice (some ⟨go, 0, none⟩) N N, .slice (some ⟨gs, 0, none⟩) N N], .int .i64 tq] w fun e w' => ∃ H, HopOk N (edA R (fun j => l.getD j 0) Wn Hn N) src (tgt P) H ∧ WayPost R l X Y Wn Hn N H P tq w e w' := by
  have hN6 : N ≤ 65536 := by rw [hN]; exact hr.n
  have HHo := fun (w' : World) (hx : Ext w w') => hidA (hops_any X Y Wn Hn A N c R C m cc src go gs l P seen w' hr hN hR hl hh hs (hV.ext hx) (hC.ext hx) hP (hgo.ext hx))
  have HPt := fun (j : Nat) (w : World) (hj : j ≤ 65536) => hidA (point_any X Y Wn Hn A N c R C m cc j w hr hj)
  have HBe := fun (gi k : Nat) (H : Nat → Int) (w' : World) (hx : Ext w w') (hk : k < N) (hH : ∀ j, j < N → -1 ≤ H j ∧ H j < N) (hgi : Bk w' gi 3 (intB N H)) => hidA (before_any X Y Wn Hn A N c R C m cc src go gs gi k l P H w' hr hN hR hl hh hk (hV.ext hx) (hC.ext hx) (fun j hj => ⟨(hP.ob j hj).1, (hP.ob j hj).2.1⟩) hH (hgo.ext hx) hgi)
  have HVB := hidA (fun (k best : Nat) (H : Nat → Int) (hk : k < N) (h : VB R (fun j => l.getD j 0) Wn Hn N H P k 8 1 best) (hH : HopOk N (edA R (fun j => l.getD j 0) Wn Hn N) src (tgt P) H) (h0 : 0 < H k) => h.isB hr.w1 hN hk hH h0)
  obtain ⟨i0, hi0, hz0, hz1, hz2⟩ := info_parts infoPt
  clear hr hN hR hl hh hV hC hP hgo hs
  unfold gcells at *
  go_enter Try.func72, Try.ntmps72
  go_upto_region 1 with fail
  obtain ⟨w0, hw0⟩ : ∃ w0, w0 = (w.alloc (.cells #[.int .i64 X, .int .i64 Y, .int .i64 (Wn : Int), .int .i64 (Hn : Int), .slice A N c, .float .f32 R.gr, .float .f32 R.wt, .float .f32 R.br, .float .f32 R.de, .int .i64 (R.sp : Int), .slice C m cc] 115)).alloc (.cells #[.int .i64 src, .slice (some ⟨go, 0, none⟩) N N, .slice (some ⟨gs, 0, none⟩) N N] 124) := ⟨_, rfl⟩
  have kG : Bk w0 w.heap.size 115 #[.int .i64 X, .int .i64 Y, .int .i64 (Wn : Int), .int .i64 (Hn : Int), .slice A N c, .float .f32 R.gr, .float .f32 R.wt, .float .f32 R.br, .float .f32 R.de, .int .i64 (R.sp : Int), .slice C m cc] := by rw [hw0]; exact (Bk.new' rfl).alloc _
  have kP : Bk w0 (w.heap.size + 1) 124 #[.int .i64 src, .slice (some ⟨go, 0, none⟩) N N, .slice (some ⟨gs, 0, none⟩) N N] := by rw [hw0]; exact Bk.new' (by simp)
  have hx0 : Ext w w0 := by rw [hw0]; exact ((Ext.refl w).alloc _).alloc _
  rw [← hw0]
  clear hw0
  generalize w.heap.size + 1 = hp at *
  generalize hge : w.heap.size = hg at kG ⊢
  have g0 := kG.cell 0
  have g1 := kG.cell 1
  have g2 := kG.cell 2
  have g3 := kG.cell 3
  have g4 := kG.cell 4
  have g5 := kG.cell 5
  have g6 := kG.cell 6
  have g7 := kG.cell 7
  have g8 := kG.cell 8
  have g9 := kG.cell 9
  have g10 := kG.cell 10
  have p0 := kP.cell 0
  have p1 := kP.cell 1
  have p2 := kP.cell 2
  go_upto_region 2 with (go_at_call 109; refine ((HHo _ hx0).out).mono ?_; rintro e w1 ⟨gi, H, rfl, hgi, kI, hHop, hHb, hx1⟩)
  clear g0 g1 g2 g3 g4 g5 g6 g7 g8 g9 g10 p0 p1 p2
  have kG1 := kG.ext hx1
  have kP1 := kP.ext hx1
  have hxa := hx0.trans hx1
  have g0 := kG1.cell 0
  have g1 := kG1.cell 1
  have g2 := kG1.cell 2
  have g3 := kG1.cell 3
  have g4 := kG1.cell 4
  have g5 := kG1.cell 5
  have g6 := kG1.cell 6
  have g7 := kG1.cell 7
  have g8 := kG1.cell 8
  have g9 := kG1.cell 9
  have g10 := kG1.cell 10
  have HHop := hidA hHop
  have HHb := hidA hHb
  clear hHop hHb kG kP hgi
  go_upto_region 3 with (go_at_call 74; refine ((HPt tq _ (by omega)).out).mono ?_; rintro e w2 ⟨rfl, hx2⟩)
  clear g0 g1 g2 g3 g4 g5 g6 g7 g8 g9 g10
  have hx23 : Ext w (w2.alloc (.cells #[.int .i64 (X + (tq : Int) % (Wn : Int)), .int .i64 (Y + (tq : Int) / (Wn : Int))] 32)) := (hxa.trans hx2).alloc _
  have hO3 : OwnP (w2.alloc (.cells #[.int .i64 (X + (tq : Int) % (Wn : Int)), .int .i64 (Y + (tq : Int) / (Wn : Int))] 32)) w.heap.size (.slice (some ⟨w2.heap.size, 0, none⟩) 1 1) (([] ++ [tq]).map (cpt X Y Wn)) :=
    ⟨rfl, .inr ⟨w2.heap.size, 1, _, rfl, by have := (hxa.trans hx2).size; omega, Bk.new' rfl, by simp, by unfold maxLen; simp, by simp, by simp [ptv, cpt]⟩⟩
  have kG3 := (kG1.ext hx2).alloc (.cells #[.int .i64 (X + (tq : Int) % (Wn : Int)), .int .i64 (Y + (tq : Int) / (Wn : Int))] 32)
  have kP3 := (kP1.ext hx2).alloc (.cells #[.int .i64 (X + (tq : Int) % (Wn : Int)), .int .i64 (Y + (tq : Int) / (Wn : Int))] 32)
  have kI3 := (kI.ext hx2).alloc (.cells #[.int .i64 (X + (tq : Int) % (Wn : Int)), .int .i64 (Y + (tq : Int) / (Wn : Int))] 32)
  generalize w2.alloc (.cells #[.int .i64 (X + (tq : Int) % (Wn : Int)), .int .i64 (Y + (tq : Int) / (Wn : Int))] 32) = w3 at *
  generalize w2.heap.size = ga at *
  have Hx23 := hidA hx23
  have HO3 := hidA hO3
  have Hge := hidA hge
  clear hx23 hO3 hxa hx0 hx1 hx2 kG1 kP1 kI hge
  go_wp2
  go_loopw [8, 9] (fun s8 s9 wr => ∃ (k : Nat) (L0 : List Nat), s9 = .int .i64 k ∧ k < N ∧ (∀ ys, Chain R (fun j => l.getD j 0) Wn Hn N H P k ys → Chain R (fun j => l.getD j 0) Wn Hn N H P tq (L0 ++ ys)) ∧ (L0.length : Int) + H k < N ∧ L0.length < N ∧ OwnP wr w.heap.size s8 ((L0 ++ [k]).map (cpt X Y Wn)) ∧ Ext w wr ∧ Bk wr hg 115 #[.int .i64 X, .int .i64 Y, .int .i64 (Wn : Int), .int .i64 (Hn : Int), .slice A N c, .float .f32 R.gr, .float .f32 R.wt, .float .f32 R.br, .float .f32 R.de, .int .i64 (R.sp : Int), .slice C m cc] ∧ Bk wr hp 124 #[.int .i64 src, .slice (some ⟨go, 0, none⟩) N N, .slice (some ⟨gs, 0, none⟩) N N] ∧ Bk wr gi 3 (intB N H)) (fun _ s9 _ => (H (intOf s9).toNat).toNat)
  case atStart => exact ⟨tq, [], rfl, hto, fun ys h => h, by have := HHb.out tq hto; simp; omega, by simp; omega, HO3.out, Hx23.out, kG3, kP3, kI3⟩
  case round =>
    clear HO3 Hx23 kG3 kP3 kI3
    obtain ⟨k, L0, rfl, hk, hch, hlen, hlen2, hO, hxw, kG4, kP4, kI4⟩ := hrel
    obtain ⟨ga, cap, rest, hv, hga, hPB, hcap⟩ := hO.form (by simp)
    have hxl : ((L0 ++ [k]).map (cpt X Y Wn)).length = L0.length + 1 := by simp
    rw [hxl] at hv hcap
    have e1 : wr.cell? ⟨gi, k, none⟩ = some (.int .i64 (H k)) := by rw [kI4.cell]; exact intB_get _ hk
    have k0 : (0 : Int) ≤ k := by omega
    have k1 : (k : Int) < N := by omega
    have hHk := HHb.out k hk
    have Hch := hidA hch
    have HO := hidA hO
    have Hxw := hidA hxw
    by_cases hpos : 0 < H k
    · have g0 := kG4.cell 0
      have g1 := kG4.cell 1
      have g2 := kG4.cell 2
      have g3 := kG4.cell 3
      have g4 := kG4.cell 4
      have g5 := kG4.cell 5
      have g6 := kG4.cell 6
      have g7 := kG4.cell 7
      have g8 := kG4.cell 8
      have g9 := kG4.cell 9
      have g10 := kG4.cell 10
      have p0 := kP4.cell 0
      have p1 := kP4.cell 1
      have p2 := kP4.cell 2
      have HB := HBe gi k H wr hxw hk HHb.out kI4
      have KG4 := hidA (And.intro kG4 (And.intro kP4 kI4))
      subst hv
      clear hch hO hxw kG4 kP4 hPB hcap hxl kI4
      go_upto_region 6 with (go_at_call 110; refine HB.out.mono ?_; rintro e w5 ⟨best, rfl, hvb, hx5⟩)
      have hB := HVB.out k best H hk hvb HHop.out hpos
      have hbN := hB.1
      have hbH := hB.2.1.1
      have HBq := hidA hB
      have kG5 := KG4.out.1.ext hx5
      have KG5 := hidA (And.intro kG5 (And.intro (KG4.out.2.1.ext hx5) (KG4.out.2.2.ext hx5)))
      clear g0 g1 g2 g3 g4 g5 g6 g7 g8 g9 g10 p0 p1 p2 e1 HB hvb hB KG4
      have g0 := kG5.cell 0
      have g1 := kG5.cell 1
      have g2 := kG5.cell 2
      have g3 := kG5.cell 3
      have g4 := kG5.cell 4
      have g5 := kG5.cell 5
      have g6 := kG5.cell 6
      have g7 := kG5.cell 7
      have g8 := kG5.cell 8
      have g9 := kG5.cell 9
      have g10 := kG5.cell 10
      have HP5 := fun (w : World) => HPt best w (by omega)
      have hb65 : best ≤ 65536 := by omega
      have HO5 := hidA (HO.out.ext hx5)
      have Hxs := hidA (Hxw.out.trans hx5)
      clear hx5 kG5 HO Hxw
      go_upto_region 4 with (first | (go_at_call 74; refine ((HP5 _).out).mono ?_; rintro e w6 ⟨rfl, hx6⟩; have hO6 := hidA ((HO5.out.ext hx6).ext ((Ext.refl w6).alloc (.cells #[.int .i64 (X + (best : Int) % (Wn : Int)), .int .i64 (Y + (best : Int) / (Wn : Int))] 32))); have hnews : Hid (∀ j u, ([Value.int .i64 (X + (best : Int) % (Wn : Int)), .int .i64 (Y + (best : Int) / (Wn : Int))] : List Value)[j]? = some u → (w6.alloc (.cells #[.int .i64 (X + (best : Int) % (Wn : Int)), .int .i64 (Y + (best : Int) / (Wn : Int))] 32)).cell? ((⟨w6.heap.size, 0, none⟩ : Addr).add j) = some u) := World.news_of_block (cs := #[.int .i64 (X + (best : Int) % (Wn : Int)), .int .i64 (Y + (best : Int) / (Wn : Int))]) (t := 32) (fr := (0, 0)) (heap_alloc_new w6 _); have hone : Hid (∀ u ∈ ([Value.int .i64 (X + (best : Int) % (Wn : Int)), .int .i64 (Y + (best : Int) / (Wn : Int))] : List Value), u.oneCell' = true) := (by intro u hu; simp at hu; rcases hu with rfl | rfl <;> rfl); have hs6 := hidA (show w.heap.size ≤ (w6.alloc (.cells #[.int .i64 (X + (best : Int) % (Wn : Int)), .int .i64 (Y + (best : Int) / (Wn : Int))] 32)).heap.size from by have := (Hxs.out.trans hx6).size; rw [World.size_alloc]; omega)) | (at_builtin; (refine wpList_append_lies _ (by rfl) _ _ 46 (by rfl) w.heap.size 32 i0 (.agg #[.int .i64 0, .int .i64 0]) 2 16 Try.underlying46 hi0 hz0 hz1 hz2 (by rfl) (by decide) _ _ _ (by rfl) hO6.out ⟨w6.heap.size, 0, none⟩ 1 1 [.int .i64 (X + (best : Int) % (Wn : Int)), .int .i64 (Y + (best : Int) / (Wn : Int))] (by rfl) (by rfl) hnews.out hone.out (by omega) (by unfold maxLen; simp; omega) (by simp; omega) hs6.out (w6.heap.size + 1) (by simp) ?_; intro gg cap2 w7 hown7 hgrow7 hat hlt)))
      have ho1 : some hg ≠ Value.ownBlock (.slice (some ⟨ga, 0, none⟩) (L0.length + 1) cap) := own_ne hO6.out ((KG5.out.1.ext hx6).alloc _) (by decide)
      have ho2 : some hp ≠ Value.ownBlock (.slice (some ⟨ga, 0, none⟩) (L0.length + 1) cap) := own_ne hO6.out ((KG5.out.2.1.ext hx6).alloc _) (by decide)
      have ho3 : some gi ≠ Value.ownBlock (.slice (some ⟨ga, 0, none⟩) (L0.length + 1) cap) := own_ne hO6.out ((KG5.out.2.2.ext hx6).alloc _) (by decide)
      have hx7 := ((Hxs.out.trans hx6).alloc (.cells #[.int .i64 (X + (best : Int) % (Wn : Int)), .int .i64 (Y + (best : Int) / (Wn : Int))] 32)).grown hgrow7 (fun k he => (World.ownsRow.lt hO6.out k he).1)
      refine ⟨⟨best, L0 ++ [k], rfl, hbN, fun ys h => ?_, ?_, ?_, ?_, hx7, ((KG5.out.1.ext hx6).alloc _).grown hgrow7 ho1, ((KG5.out.2.1.ext hx6).alloc _).grown hgrow7 ho2, ((KG5.out.2.2.ext hx6).alloc _).grown hgrow7 ho3⟩, ?_⟩
      · have h9 := Hch.out (k :: ys) (.next hpos HBq.out h)
        simpa using h9
      · simp
        omega
      · simp
        omega
      · have h8 := hown7
        unfold OwnP
        simp only [List.map_append, ptv_append, List.length_append, List.length_map, List.map_cons, List.map_nil, List.length_cons, List.length_nil] at h8 ⊢
        exact h8
      · simp [intOf]
        omega
    · have hP6 := hidA hPB
      subst hv
      have HR := hidA (Reverse_any ga (L0.length + 1) cap _ rest wr hxl hPB (by omega) (by omega))
      clear hch hO hxw kG4 kP4 kI4 hPB
      go_wp2_with (go_at_call 111; refine HR.out.mono ?_; rintro e w5 ⟨rfl, hP5, hg5⟩)
      go_ret
      refine ⟨H, HHop.out, L0 ++ [k], ga, cap, Hch.out [k] (.last (by omega)), by simp; omega, by simp, hga, ?_, Hxw.out.grown hg5 (fun b hb => by injection hb with hb; subst hb; exact hga), by simp; omega, by simp⟩
      rw [List.map_reverse]
      exact hP5.rd
end Go.Proofs.Ytpgdinpckolfpaa
