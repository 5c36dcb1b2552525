/- Contract: ground.hops: by how many tight steps each cell is reached. -/
import Derived.Test.YtpgdinpckolfpaaRdG
namespace Go.Proofs.Ytpgdinpckolfpaa
open Go.RowKit
attribute [local go_sem ↓] Go.wp_at_zero Go.wp_at_succ
attribute [local go_sem] run_store_float

theorem enters_hops : ∀ args w, (callFunc 128 args).run Try.prog w = .ok (.enter 128 args) w := enters_of Try.func128 (by kernel_rfl) rfl
/-- what hops holds between rounds -/
structure HN (W0 w : World) (hb hp hl gi go gs : Nat) (N src : Nat) (P : Nat → Nat) (H : Nat → Int) (q : List Nat) (qv : Value) : Prop where
  eb : Bk w hb 60 #[.slice (some ⟨gi, 0, none⟩) N N]
  ig : Bk w gi 3 (intB N H)
  pb : Bk w hp 124 #[.int .i64 src, .slice (some ⟨go, 0, none⟩) N N, .slice (some ⟨gs, 0, none⟩) N N]
  pg : Bk w go 27 (flo N P)
  lb : Bk w hl 60 #[qv]
  own : OwnI w W0.heap.size qv q
  ext : Ext W0 w
  n2 : qv.ownBlock ≠ some gi
  n4 : hb ≠ hl
  b1 : W0.heap.size ≤ gi
  b2 : W0.heap.size ≤ hl
section
variable {W0 w : World} {hb hp hk hl gi go gs : Nat} {N src k : Nat} {P : Nat → Nat} {H : Nat → Int} {q : List Nat} {qv : Value}
theorem HN.box (h : HN W0 w hb hp hl gi go gs N src P H q qv) (k : Nat) : HM W0 (w.alloc (.cells #[.int .i64 k] 3)) hb hp w.heap.size hl gi go gs N src k P H q qv :=
  ⟨h.eb.alloc _, h.ig.alloc _, h.pb.alloc _, h.pg.alloc _, Bk.new' rfl, h.lb.alloc _, h.own.ext ((Ext.refl _).alloc _), h.ext.alloc _, fun e => by have := h.ig.lt; omega, h.n2, fun e => by have := (World.ownsRow.lt h.own _ e).2; omega, h.n4, h.b1, h.b2⟩
theorem HM.less (h : HM W0 w hb hp hk hl gi go gs N src k P H q qv) : HN W0 w hb hp hl gi go gs N src P H q qv := ⟨h.eb, h.ig, h.pb, h.pg, h.lb, h.own, h.ext, h.n2, h.n4, h.b1, h.b2⟩
end
/-- the numbers of steps are less than how many cells are reached -/
def HBd (N : Nat) (H : Nat → Int) (q : List Nat) : Prop := ∀ j, j < N → -1 ≤ H j ∧ H j < q.length
theorem HBd.push {N k m : Nat} {H : Nat → Int} {q : List Nat} (h : HBd N H q) (hk : k < N) : HBd N (updF H m (H k + 1)) (q ++ [m]) := fun j hj => by
  have h1 := h j hj
  have h2 := h k hk
  rw [List.length_append]
  unfold updF
  simp only [List.length_cons, List.length_nil]
  split <;> omega
theorem wrap_succ {i N : Nat} (h : i < N) (hN : N ≤ 65536) : wrap64 ((i : Int) + 1) = ((i + 1 : Nat) : Int) := by
  rw [IntWalk.wrap64_in _ ⟨by omega, by omega⟩]
  omega
theorem sub_less {N i : Nat} (h : i < N) : N - (i + 1) < N - i := by omega
/-- what hops returns -/
def HopsPost (R : RlR) (l : List Nat) (Wn Hn N src : Nat) (P : Nat → Nat) (w : World) (e : Ending) (w' : World) : Prop := ∃ gi H, e = .returned (.slice (some ⟨gi, 0, none⟩) N N) ∧ w.heap.size ≤ gi ∧ Bk w' gi 3 (intB N H) ∧
  HopOk N (edA R (fun j => l.getD j 0) Wn Hn N) src (tgt P) H ∧ (∀ j, j < N → -1 ≤ H j ∧ H j < N) ∧ Ext w w'
set_option maxRecDepth 100000 in
set_option maxHeartbeats 6400000 in
theorem hops_any (X Y : Int) (Wn Hn : Nat) (A : Option Addr) (N c : Nat) (R : RlR) (C : Option Addr) (m cc src go gs : Nat) (l : List Nat) (P : Nat → Nat) (seen : Nat → Bool) (w : World)
    (hr : Reg X Y Wn Hn) (hN : N = Wn * Hn) (hR : RlOk R N) (hl : l.length = N) (hh : ∀ j, j < N → Bd 20 (l.getD j 0)) (hs : src < N) (hV : Rd w A (flt l)) (hC : CoR w C m R.co) (hP : PrOk N (edA R (fun j => l.getD j 0) Wn Hn N) src seen P) (hgo : Bk w go 27 (flo N P)) :
    Calls Try.prog 109 #[.agg (gcells X Y Wn Hn A N c R C m cc), .agg #[.int .i64 src, .slice (some ⟨go, 0, none⟩) N N, .slice (some ⟨gs, 0, none⟩) N N]] w fun e w' => HopsPost R l Wn Hn N src P w e w' := by
  have hN6 : N ≤ 65536 := by rw [hN]; exact hr.n
  have mi := mk_int N (by omega)
  have HR := hidA hR
  have HH := hidA hh
  have HN' := hidA hN
  have Hr := hidA hr
  have Hl := hidA hl
  have HP := hidA hP
  have HE := hidA (edA_ok hR hN hh)
  clear hR hh hN hr hl hP
  unfold gcells
  go_enter Try.func109, Try.ntmps109
  go_upto_region 1 with fail
  have kG : Bk ((w.alloc (.cells #[.int .i64 X, .int .i64 Y, .int .i64 (Wn : Int), .int .i64 (Hn : Int), .slice A N c, .float .f32 R.gr, .float .f32 R.wt, .float .f32 R.br, .float .f32 R.de, .int .i64 (R.sp : Int), .slice C m cc] 115)).alloc (.cells #[.int .i64 src, .slice (some ⟨go, 0, none⟩) N N, .slice (some ⟨gs, 0, none⟩) N N] 124)) w.heap.size 115 #[.int .i64 X, .int .i64 Y, .int .i64 (Wn : Int), .int .i64 (Hn : Int), .slice A N c, .float .f32 R.gr, .float .f32 R.wt, .float .f32 R.br, .float .f32 R.de, .int .i64 (R.sp : Int), .slice C m cc] := (Bk.new' rfl).alloc _
  have kP : Bk ((w.alloc (.cells #[.int .i64 X, .int .i64 Y, .int .i64 (Wn : Int), .int .i64 (Hn : Int), .slice A N c, .float .f32 R.gr, .float .f32 R.wt, .float .f32 R.br, .float .f32 R.de, .int .i64 (R.sp : Int), .slice C m cc] 115)).alloc (.cells #[.int .i64 src, .slice (some ⟨go, 0, none⟩) N N, .slice (some ⟨gs, 0, none⟩) N N] 124)) (w.heap.size + 1) 124 #[.int .i64 src, .slice (some ⟨go, 0, none⟩) N N, .slice (some ⟨gs, 0, none⟩) N N] := Bk.new' (by simp)
  have kO := (hgo.alloc (.cells #[.int .i64 X, .int .i64 Y, .int .i64 (Wn : Int), .int .i64 (Hn : Int), .slice A N c, .float .f32 R.gr, .float .f32 R.wt, .float .f32 R.br, .float .f32 R.de, .int .i64 (R.sp : Int), .slice C m cc] 115)).alloc (.cells #[.int .i64 src, .slice (some ⟨go, 0, none⟩) N N, .slice (some ⟨gs, 0, none⟩) N N] 124)
  have hx0 : Ext w ((w.alloc (.cells #[.int .i64 X, .int .i64 Y, .int .i64 (Wn : Int), .int .i64 (Hn : Int), .slice A N c, .float .f32 R.gr, .float .f32 R.wt, .float .f32 R.br, .float .f32 R.de, .int .i64 (R.sp : Int), .slice C m cc] 115)).alloc (.cells #[.int .i64 src, .slice (some ⟨go, 0, none⟩) N N, .slice (some ⟨gs, 0, none⟩) N N] 124)) := ((Ext.refl w).alloc _).alloc _
  generalize (w.alloc (.cells #[.int .i64 X, .int .i64 Y, .int .i64 (Wn : Int), .int .i64 (Hn : Int), .slice A N c, .float .f32 R.gr, .float .f32 R.wt, .float .f32 R.br, .float .f32 R.de, .int .i64 (R.sp : Int), .slice C m cc] 115)).alloc (.cells #[.int .i64 src, .slice (some ⟨go, 0, none⟩) N N, .slice (some ⟨gs, 0, none⟩) N N] 124) = w0 at *
  generalize w.heap.size + 1 = hp at *
  have c1 := kP.cell 1
  have hsz0 := hx0.size
  go_upto_region 2 with fail
  obtain ⟨w1, hw1⟩ : ∃ w1, w1 = (w0.alloc (.cells (intB N fun _ => 0) 3)).alloc (.cells #[.slice (some ⟨w0.heap.size, 0, none⟩) N N] 60) := ⟨_, rfl⟩
  have kI : Bk w1 w0.heap.size 3 (intB N fun _ => 0) := by rw [hw1]; exact (Bk.new' rfl).alloc _
  have kB : Bk w1 (w0.heap.size + 1) 60 #[.slice (some ⟨w0.heap.size, 0, none⟩) N N] := by rw [hw1]; exact Bk.new' (by simp)
  have hx1 : Ext w0 w1 := by rw [hw1]; exact ((Ext.refl w0).alloc _).alloc _
  rw [← hw1]
  clear hw1 mi c1
  have kG1 := kG.ext hx1
  have kP1 := kP.ext hx1
  have kO1 := kO.ext hx1
  clear kG kP kO hgo
  have hgi : w.heap.size ≤ w0.heap.size := hsz0
  generalize w0.heap.size + 1 = hb at *
  generalize w0.heap.size = gi at *
  have hxw := hx0.trans hx1
  have Hgi := hidA hgi
  clear hx0 hx1 hsz0 hgi
  generalize hge : w.heap.size = hg at kG1 ⊢
  have Hge := hidA hge
  clear hge
  have HxW := hidA hxw
  clear hxw
  have b0 := kB.cell 0
  go_wp2
  clear b0
  go_loopw [16] (fun s16 wr => ∃ k : Nat, k ≤ N ∧ s16 = .int .i64 k ∧ Bk wr gi 3 (intB N fun j => if j < k then -1 else 0) ∧ Bk wr hb 60 #[.slice (some ⟨gi, 0, none⟩) N N] ∧ Bk wr hg 115 #[.int .i64 X, .int .i64 Y, .int .i64 (Wn : Int), .int .i64 (Hn : Int), .slice A N c, .float .f32 R.gr, .float .f32 R.wt, .float .f32 R.br, .float .f32 R.de, .int .i64 (R.sp : Int), .slice C m cc] ∧ Bk wr hp 124 #[.int .i64 src, .slice (some ⟨go, 0, none⟩) N N, .slice (some ⟨gs, 0, none⟩) N N] ∧ Bk wr go 27 (flo N P) ∧ Ext w wr) (fun s16 _ => N - (intOf s16).toNat)
  case atStart => exact ⟨0, Nat.zero_le _, rfl, by simpa using kI, kB, kG1, kP1, kO1, HxW.out⟩
  case round =>
    clear kI kB kG1 kP1 kO1 HxW
    obtain ⟨k, hk, rfl, kI, kB, kG, kP, kO, hx⟩ := hrel
    have b0 := kB.cell 0
    by_cases hkN : k < N
    · have f0 := kI.frozen k
      have e1 : wr.cell? ⟨gi, k, none⟩ = some (.int .i64 (if k < k then -1 else 0)) := by rw [kI.cell]; exact intB_get _ hkN
      have i0 : (0 : Int) ≤ k := by omega
      have i1 : (k : Int) < N := by omega
      have kI2 := kI.set k (.int .i64 (-1))
      rw [intB_set] at kI2
      have eH : updF (fun j => if j < k then (-1 : Int) else 0) k (-1) = fun j => if j < k + 1 then -1 else 0 := by
        funext j
        unfold updF
        by_cases h1 : j = k
        · rw [if_pos h1, if_pos (by omega)]
        · rw [if_neg h1]
          dsimp only
          by_cases h2 : j < k
          · rw [if_pos h2, if_pos (by omega)]
          · rw [if_neg h2, if_neg (by omega)]
      rw [eH] at kI2
      have kB2 := kB.far (p := ⟨gi, k, none⟩) (Bk.ne kB kI (by decide)) (.int .i64 (-1))
      have kG2 := kG.far (p := ⟨gi, k, none⟩) (Bk.ne kG kI (by decide)) (.int .i64 (-1))
      have kP2 := kP.far (p := ⟨gi, k, none⟩) (Bk.ne kP kI (by decide)) (.int .i64 (-1))
      have kO2 := kO.far (p := ⟨gi, k, none⟩) (Bk.ne kO kI (by decide)) (.int .i64 (-1))
      have hx2 := hx.setCell (p := ⟨gi, k, none⟩) Hgi.out (.int .i64 (-1))
      have K2 := hidA (And.intro kI2 (And.intro kB2 (And.intro kG2 (And.intro kP2 (And.intro kO2 hx2)))))
      clear kI kB kG kP kO hx eH kI2 kB2 kG2 kP2 kO2 hx2
      go_wp2
      go_roundw
      case rel =>
        obtain ⟨a1, a2, a3, a4, a5, a6⟩ := K2.out
        exact ⟨k + 1, by omega, by go_num, a1, a2, a3, a4, a5, a6⟩
      case measure => simp [intOf]; omega
    · have hkN' : N = k := by omega
      subst hkN'
      have f0 := kI.frozen src
      have e1 : wr.cell? ⟨gi, src, none⟩ = some (.int .i64 (if src < N then -1 else 0)) := by rw [kI.cell]; exact intB_get _ hs
      have p0 := kP.cell 0
      have p1 := (kP.far (p := ⟨gi, src, none⟩) (Bk.ne kP kI (by decide)) (.int .i64 0)).cell 0
      have i0 : (0 : Int) ≤ src := by omega
      have i1 : (src : Int) < N := by omega
      have kI2 := kI.set src (.int .i64 0)
      rw [intB_set] at kI2
      have kI3 : Bk (wr.setCell ⟨gi, src, none⟩ (.int .i64 0)) gi 3 (intB N (updF (fun _ => -1) src 0)) := by
        have e : intB N (updF (fun j => if j < N then (-1 : Int) else 0) src 0) = intB N (updF (fun _ => -1) src 0) := by
          unfold intB
          congr 1
          apply List.map_congr_left
          intro j hj
          have := List.mem_range.1 hj
          unfold updF
          split
          · rfl
          · dsimp only
            rw [if_pos this]
        rw [← e]
        exact kI2
      have kB2 := kB.far (p := ⟨gi, src, none⟩) (Bk.ne kB kI (by decide)) (.int .i64 0)
      have kG2 := kG.far (p := ⟨gi, src, none⟩) (Bk.ne kG kI (by decide)) (.int .i64 0)
      have kP2 := kP.far (p := ⟨gi, src, none⟩) (Bk.ne kP kI (by decide)) (.int .i64 0)
      have kO2 := kO.far (p := ⟨gi, src, none⟩) (Bk.ne kO kI (by decide)) (.int .i64 0)
      have hx2 := hx.setCell (p := ⟨gi, src, none⟩) Hgi.out (.int .i64 0)
      have K2 := hidA (And.intro kI3 (And.intro kB2 (And.intro kG2 (And.intro kP2 (And.intro kO2 hx2)))))
      clear kI kB kG kP kO hx kI2 kI3 kB2 kG2 kP2 kO2 hx2
      go_upto_region 9 with fail
      obtain ⟨w2, hw2⟩ : ∃ w2, w2 = (((wr.setCell ⟨gi, src, none⟩ (.int .i64 0)).alloc (.cells #[.int .i64 src] 3)).alloc (.cells #[.slice (some ⟨wr.heap.size, 0, none⟩) 1 1] 60)) := ⟨_, rfl⟩
      obtain ⟨a1, a2, a3, a4, a5, a6⟩ := K2.out
      have hsz : (wr.setCell ⟨gi, src, none⟩ (.int .i64 0)).heap.size = wr.heap.size := by simp
      have hil := a1.lt
      have hbl := a2.lt
      have hwl := a6.size
      have hN : HN w w2 hb hp (wr.heap.size + 1) gi go gs N src P (updF (fun _ => -1) src 0) [src] (.slice (some ⟨wr.heap.size, 0, none⟩) 1 1) := by
        rw [hw2]
        refine ⟨(a2.alloc _).alloc _, (a1.alloc _).alloc _, (a4.alloc _).alloc _, (a5.alloc _).alloc _, Bk.new' (by simp), ?_, (a6.alloc _).alloc _, ?_, by omega, Hgi.out, by omega⟩
        · refine ⟨rfl, .inr ⟨wr.heap.size, 1, _, rfl, by omega, (Bk.new' (by simp)).alloc _, by simp, by unfold maxLen; simp, by simp, by simp [ints]⟩⟩
        · intro e
          have e' : wr.heap.size = gi := by injection e
          omega
      have kG3 : Bk w2 hg 115 #[.int .i64 X, .int .i64 Y, .int .i64 (Wn : Int), .int .i64 (Hn : Int), .slice A N c, .float .f32 R.gr, .float .f32 R.wt, .float .f32 R.br, .float .f32 R.de, .int .i64 (R.sp : Int), .slice C m cc] := by rw [hw2]; exact (a3.alloc _).alloc _
      rw [← hw2]
      clear hw2 e1 f0 p0 p1 b0 K2 a1 a2 a3 a4 a5 a6 hsz hil hbl hwl hk hkN
      generalize wr.heap.size + 1 = hl2 at *
      have HJ0 := hidA (HJ.zero (N := N) (E := edA R (fun j => l.getD j 0) Wn Hn N) (T := tgt P) hs)
      have HB0 : Hid (HBd N (updF (fun _ => -1) src 0) [src]) := fun j hj => by
        unfold updF
        simp only [List.length_cons, List.length_nil]
        split <;> omega
      have HN0 := hidA hN
      clear hN
      go_wp2
      go_loopw [8] (fun s8 wr => ∃ (i : Nat) (H : Nat → Int) (q : List Nat) (qv : Value), s8 = .int .i64 i ∧ i ≤ q.length ∧ HN w wr hb hp hl2 gi go gs N src P H q qv ∧ HJ N (edA R (fun j => l.getD j 0) Wn Hn N) src (tgt P) i none H q ∧ HBd N H q ∧ Bk wr hg 115 #[.int .i64 X, .int .i64 Y, .int .i64 (Wn : Int), .int .i64 (Hn : Int), .slice A N c, .float .f32 R.gr, .float .f32 R.wt, .float .f32 R.br, .float .f32 R.de, .int .i64 (R.sp : Int), .slice C m cc]) (fun s8 _ => N - (intOf s8).toNat)
      case atStart => exact ⟨0, _, _, _, rfl, Nat.zero_le _, HN0.out, HJ0.out, HB0.out, kG3⟩
      case round =>
        clear HN0 HJ0 HB0 kG3
        obtain ⟨i, H, q, qv, rfl, hi, hN, hJ, hB, kG⟩ := hrel
        obtain ⟨A', cap', hv⟩ := hN.own.form
        subst hv
        have l0 := hN.lb.cell 0
        have hql := hJ.len
        by_cases hiq : i < q.length
        · have hrd := hN.own.rd rfl
          obtain ⟨ad, rfl, _, hcv⟩ := hrd.at (k := i) (by rw [ints_length]; exact hiq)
          have q1 := hcv i _ (ints_get hiq)
          obtain ⟨k0, hk0⟩ : ∃ k0, k0 = q[i] := ⟨_, rfl⟩
          have hk0N : k0 < N := by rw [hk0]; exact (hJ.q0 _ (List.getElem_mem hiq)).1
          have Hk0 := hidA (show q.getD i 0 = k0 from by rw [hk0, getD_nat hiq])
          rw [← hk0] at q1
          have i0 : (0 : Int) ≤ i := by omega
          have i1 : (i : Int) < q.length := by omega
          have i2 : (i : Int) < 65536 := by omega
          have hM := hidA (hN.box k0)
          have kG2 := kG.alloc (.cells #[.int .i64 (k0 : Int)] 3)
          have HJi := hidA hJ
          have HBi := hidA hB
          have Hql := hidA hql
          clear hk0 hrd hcv hN hJ hB kG hql
          go_upto_region 13 with fail
          generalize wr.alloc (.cells #[.int .i64 (k0 : Int)] 3) = w3 at *
          generalize wr.heap.size = hk3 at *
          clear l0 q1
          have s1 := hM.out.kb.cell 0
          have g0 := kG2.cell 0
          have g1 := kG2.cell 1
          have g2 := kG2.cell 2
          have g3 := kG2.cell 3
          have g4 := kG2.cell 4
          have g5 := kG2.cell 5
          have g6 := kG2.cell 6
          have g7 := kG2.cell 7
          have g8 := kG2.cell 8
          have g9 := kG2.cell 9
          have g10 := kG2.cell 10
          have HI := hidA (each_any 128 #[.pointer (some ⟨hb, 0, none⟩), .pointer (some ⟨hp, 0, none⟩), .pointer (some ⟨hk3, 0, none⟩), .pointer (some ⟨hl2, 0, none⟩)] enters_hops X Y Wn Hn A N c R C m cc k0 l Hr.out HN'.out HR.out Hl.out HH.out hk0N
            (fun L w' => ∃ (H : Nat → Int) (q : List Nat) (qv : Value), HM w w' hb hp hk3 hl2 gi go gs N src k0 P H q qv ∧ HJ N (edA R (fun j => l.getD j 0) Wn Hn N) src (tgt P) i (some L) H q ∧ HBd N H q ∧ i < q.length ∧ q.getD i 0 = k0 ∧ (∃ L0, edA R (fun j => l.getD j 0) Wn Hn N k0 = L0 ++ L) ∧ Bk w' hg 115 #[.int .i64 X, .int .i64 Y, .int .i64 (Wn : Int), .int .i64 (Hn : Int), .slice A N c, .float .f32 R.gr, .float .f32 R.wt, .float .f32 R.br, .float .f32 R.de, .int .i64 (R.sp : Int), .slice C m cc])
            (fun L wa wb ⟨H, q, qv, h1, h2, h3, h4, h5, h6, h7⟩ hx => ⟨H, q, qv, h1.step hx, h2, h3, h4, h5, h6, h7.ext hx⟩)
            (fun L wa ⟨H, q, qv, h1, _⟩ => ⟨hV.ext h1.ext, hC.ext h1.ext⟩)
            (fun t x L wa ⟨H, q, qv, h1, h2, h3, h4, h5, ⟨L0, h6⟩, h7⟩ ht hx hx0 => by
              have hql := h2.len
              obtain ⟨hadd, hb, _, _⟩ := sum_ok (HP.out.ob k0 hk0N).1 (HP.out.ob k0 hk0N).2.1 hx hx0
              have hmE : (t, x) ∈ edA R (fun j => l.getD j 0) Wn Hn N (q.getD i 0) := by rw [h5, h6]; simp
              have h6' : ∃ L0, edA R (fun j => l.getD j 0) Wn Hn N k0 = L0 ++ L := ⟨L0 ++ [(t, x)], by rw [h6]; simp⟩
              have hbk := h3 k0 hk0N
              refine (hops1_any w wa _ hp hk3 hl2 gi go gs N src k0 P H q qv t x h1 ht hk0N (by omega) ⟨hbk.1, by omega⟩ hadd).mono ?_
              rintro e wb ⟨rfl, hkp, ⟨e1, e2, qv', hF9⟩ | ⟨e1, hF9⟩⟩
              · refine ⟨rfl, ⟨_, _, qv', hF9, ?_, h3.push hk0N, by simp; omega, ?_, h6', hkp _ _ _ h7 (by decide) (by decide)⟩, fun g cs hb => hkp _ _ _ hb (by decide) (by decide)⟩
                · have h9 := h2.push hmE ht e1 (by rw [h5]; exact e2)
                  rw [h5] at h9
                  exact h9
                · rw [← h5]
                  simp [List.getD_eq_getElem?_getD, List.getElem?_append_left h4]
              · exact ⟨rfl, ⟨_, _, qv, hF9, h2.stay ht (by rw [h5]; exact e1), h3, h4, h5, h6', hkp _ _ _ h7 (by decide) (by decide)⟩, fun g cs hb => hkp _ _ _ hb (by decide) (by decide)⟩)
            w3 ⟨H, q, _, hM.out, by have h := HJi.out.begin hiq; rw [Hk0.out, edA_at hk0N] at h; exact h, HBi.out, hiq, Hk0.out, ⟨[], (edA_at hk0N).trans (List.nil_append _).symm⟩, kG2⟩)
          unfold gcells at HI
          clear kG2
          go_wp2_with (go_at_call 125; refine HI.out.mono ?_; rintro e w9 ⟨rfl, H', q', qv', hM9, hJ9, hB9, hi9, _, _, kG9⟩)
          have hq9 := hJ9.len
          have hiN : i < N := Nat.lt_of_lt_of_le hi9 hq9
          have HI9 := hidA hi9
          clear hi9 hq9 hi i0 i1 hiq
          have K9 := hidA (And.intro hM9.less (And.intro hJ9.next (And.intro hB9 kG9)))
          clear HI g0 g1 g2 g3 g4 g5 g6 g7 g8 g9 g10 s1 hM hM9 hJ9 hB9 kG9
          go_wp2_with fail
          go_roundw
          case rel =>
            obtain ⟨a1, a2, a3, a4⟩ := K9.out
            exact ⟨i + 1, H', q', qv', by go_num, HI9.out, a1, a2, a3, a4⟩
          case measure => simp [intOf]; exact sub_less hiN
        · have hiq2 : q.length ≤ i := by omega
          have b0 := hN.eb.cell 0
          have hO := hidA (hJ.fin hiq2)
          have hN' := hidA hN
          have hB' := hidA hB
          have i1 : ¬ (i : Int) < q.length := by omega
          have Hql := hidA hql
          clear hN hJ hB kG hiq2 hql
          go_wp2
          go_ret
          exact ⟨gi, H, rfl, Hgi.out, hN'.out.ig, hO.out, fun j hj => by have := hB'.out j hj; have := Hql.out; omega, hN'.out.ext⟩
end Go.Proofs.Ytpgdinpckolfpaa
