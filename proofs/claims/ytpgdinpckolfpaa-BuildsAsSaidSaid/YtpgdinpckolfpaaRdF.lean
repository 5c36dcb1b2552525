/- Contract: ground.prices: the least prices of all cells. -/
import Derived.Test.YtpgdinpckolfpaaRdC
import Derived.Test.YtpgdinpckolfpaaRdD
import Derived.LoopTactic
import Derived.Shelf.Abstract
namespace Go.Proofs.Ytpgdinpckolfpaa
open Go.RowKit
attribute [local go_sem ↓] Go.wp_at_zero Go.wp_at_succ
attribute [local go_sem] run_store_float as_spill

theorem infoBool : (Try.prog.info? 4).map (fun i => (i.zero, i.size, i.bytes)) = some (some (.bool false), 1, 1) := by kernel_rfl
theorem infoFlo : (Try.prog.info? 27).map (fun i => (i.zero, i.size, i.bytes)) = some (some (.float .f32 0), 1, 4) := by kernel_rfl
theorem mk_bool (n : Nat) (hn : n ≤ 262144) (w : World) : (Instr.makeSlice 55 (.int .i64 (n : Int)) (.int .i64 (n : Int))).run Try.prog w =
    .ok (.slice (some ⟨w.heap.size, 0, none⟩) n n) (w.alloc (.cells (bools n fun _ => false) 4)) := by
  obtain ⟨i0, hi0, hz0, hz1, hz2⟩ := info_parts infoBool
  have h := run_make (P := Try.prog) w 55 4 i0 (.bool false) Try.underlying55 hi0 hz0 .i64 .i64 n n (by omega) (by omega) (by rw [hz2]; omega) (by omega)
  rw [hz1] at h
  have e : madeCells (Value.bool false).cells ((n : Int).toNat * 1) = bools n fun _ => false := by
    rw [Int.toNat_natCast]
    unfold madeCells bools
    apply Array.ext
    · simp
    · intro i h1 h2
      simp [Value.cells, Nat.mod_one]
  rw [e] at h
  simpa using h
theorem mk_flo (n : Nat) (hn : n ≤ 262144) (w : World) : (Instr.makeSlice 24 (.int .i64 (n : Int)) (.int .i64 (n : Int))).run Try.prog w =
    .ok (.slice (some ⟨w.heap.size, 0, none⟩) n n) (w.alloc (.cells (flo n fun _ => 0) 27)) := by
  obtain ⟨i0, hi0, hz0, hz1, hz2⟩ := info_parts infoFlo
  have h := run_make (P := Try.prog) w 24 27 i0 (.float .f32 0) Try.underlying24 hi0 hz0 .i64 .i64 n n (by omega) (by omega) (by rw [hz2]; omega) (by omega)
  rw [hz1] at h
  have e : madeCells (Value.float .f32 0).cells ((n : Int).toNat * 1) = flo n fun _ => 0 := by
    rw [Int.toNat_natCast]
    unfold madeCells flo
    apply Array.ext
    · simp
    · intro i h1 h2
      simp [Value.cells, Nat.mod_one]
  rw [e] at h
  simpa using h
theorem enters_prices : ∀ args w, (callFunc 126 args).run Try.prog w = .ok (.enter 126 args) w := enters_of Try.func126 (by kernel_rfl) rfl
theorem OwnS.shape {w : World} {base : Nat} {v : Value} {xs : List SpR} (h : OwnS w base v xs) : ∃ A cap, v = .slice A xs.length cap := by
  rcases h.2 with ⟨h1, h2⟩ | ⟨g, cap, cur, hv, _⟩
  · exact ⟨none, 0, by rw [h1]; simp [h2]⟩
  · exact ⟨_, cap, hv⟩
/-- a cell is done -/
theorem FM.mark {W0 w : World} {ho hh gd gs go : Nat} {N src : Nat} {done seen : Nat → Bool} {out : Nat → Nat} {v : Value} {xs : List SpR} {q : Bool}
    (h : FM W0 w ho hh gd gs go N src done seen out v xs q) (k : Nat) : FM W0 (w.setCell ⟨gd, k, none⟩ (.bool true)) ho hh gd gs go N src (updF done k true) seen out v xs q := by
  have e1 := Bk.set h.dg k (.bool true)
  rw [bools_set] at e1
  have f1 : ∀ {g : Nat} {t : TypeId} {cs : Array Value}, Bk w g t cs → g ≠ gd → Bk (w.setCell ⟨gd, k, none⟩ (.bool true)) g t cs := fun hb hn => hb.far hn _
  exact ⟨e1, f1 h.eg h.n1.symm, f1 h.ob (Bk.ne h.ob h.dg (by decide)), f1 h.og (Bk.ne h.og h.dg (by decide)),
    f1 h.pb (Bk.ne h.pb h.dg (by decide)), h.own.set h.dg (by decide) _, h.fin, h.hq, h.ext.setCell h.b1 _, h.n1, h.b1, h.b2, h.b3, h.b4⟩
theorem edA_at {R : RlR} {V : Nat → Nat} {Wn Hn N k : Nat} (h : k < N) : edA R V Wn Hn N k = edK R V Wn Hn k := if_pos h

/-- what prices returns -/
def PricesPost (R : RlR) (l : List Nat) (Wn Hn N src : Nat) (w : World) (e : Ending) (w' : World) : Prop := ∃ go gs out seen, e = .returned (.agg #[.int .i64 src, .slice (some ⟨go, 0, none⟩) N N, .slice (some ⟨gs, 0, none⟩) N N]) ∧
  w.heap.size ≤ go ∧ w.heap.size ≤ gs ∧ Bk w' go 27 (flo N out) ∧ Bk w' gs 4 (bools N seen) ∧ PrOk N (edA R (fun j => l.getD j 0) Wn Hn N) src seen out ∧ Ext w w'
set_option maxRecDepth 100000 in
set_option maxHeartbeats 6400000 in
theorem prices_any (X Y : Int) (Wn Hn : Nat) (A : Option Addr) (N c : Nat) (R : RlR) (C : Option Addr) (m cc src : Nat) (l : List Nat) (w : World)
    (hr : Reg X Y Wn Hn) (hN : N = Wn * Hn) (hR : RlOk R N) (hl : l.length = N) (hh : ∀ j, j < N → Bd 20 (l.getD j 0)) (hs : src < N) (hV : Rd w A (flt l)) (hC : CoR w C m R.co) :
    Calls Try.prog 108 #[.agg (gcells X Y Wn Hn A N c R C m cc), .int .i64 src] w fun e w' => PricesPost R l Wn Hn N src w e w' := by
  have hN6 : N ≤ 65536 := by rw [hN]; exact hr.n
  have hN1 : 1 ≤ N := by rw [hN]; exact Nat.mul_pos hr.w1 hr.h1
  have mb := mk_bool N (by omega)
  have mf := mk_flo N (by omega)
  have hE := edA_ok hR hN hh
  have HE := hidA hE
  have HR := hidA hR
  have HH := hidA hh
  have HN := hidA hN
  have Hr := hidA hr
  have Hl := hidA hl
  obtain ⟨i0, hi0, hz0, hz1, hz2⟩ := info_parts infoSp
  clear hE hR hh hN hr hl
  unfold gcells
  go_enter Try.func108, Try.ntmps108
  go_upto_region 1 with fail
  have kG : Bk ((w.alloc (.cells #[.int .i64 X, .int .i64 Y, .int .i64 (Wn : Int), .int .i64 (Hn : Int), .slice A N c, .float .f32 R.gr, .float .f32 R.wt, .float .f32 R.br, .float .f32 R.de, .int .i64 (R.sp : Int), .slice C m cc] 115)).alloc (.cells #[.int .i64 0, .slice none 0 0, .slice none 0 0] 124)) w.heap.size 115 #[.int .i64 X, .int .i64 Y, .int .i64 (Wn : Int), .int .i64 (Hn : Int), .slice A N c, .float .f32 R.gr, .float .f32 R.wt, .float .f32 R.br, .float .f32 R.de, .int .i64 (R.sp : Int), .slice C m cc] := (Bk.new' rfl).alloc _
  have kR : Bk ((w.alloc (.cells #[.int .i64 X, .int .i64 Y, .int .i64 (Wn : Int), .int .i64 (Hn : Int), .slice A N c, .float .f32 R.gr, .float .f32 R.wt, .float .f32 R.br, .float .f32 R.de, .int .i64 (R.sp : Int), .slice C m cc] 115)).alloc (.cells #[.int .i64 0, .slice none 0 0, .slice none 0 0] 124)) (w.heap.size + 1) 124 #[.int .i64 0, .slice none 0 0, .slice none 0 0] := Bk.new' (by simp)
  have hx0 : Ext w ((w.alloc (.cells #[.int .i64 X, .int .i64 Y, .int .i64 (Wn : Int), .int .i64 (Hn : Int), .slice A N c, .float .f32 R.gr, .float .f32 R.wt, .float .f32 R.br, .float .f32 R.de, .int .i64 (R.sp : Int), .slice C m cc] 115)).alloc (.cells #[.int .i64 0, .slice none 0 0, .slice none 0 0] 124)) := ((Ext.refl w).alloc _).alloc _
  generalize (w.alloc (.cells #[.int .i64 X, .int .i64 Y, .int .i64 (Wn : Int), .int .i64 (Hn : Int), .slice A N c, .float .f32 R.gr, .float .f32 R.wt, .float .f32 R.br, .float .f32 R.de, .int .i64 (R.sp : Int), .slice C m cc] 115)).alloc (.cells #[.int .i64 0, .slice none 0 0, .slice none 0 0] 124) = w0 at *
  have c4 := kG.cell 4
  have hrlt := kR.lt
  have c4a := fun o => (kG.alloc o).cell 4
  have c4b := fun o o' => ((kG.alloc o).alloc o').cell 4
  go_cut [5] (fun s5 wx => ∃ ho gs go : Nat, s5 = Value.pointer (some ⟨ho, 0, none⟩) ∧ Bk wx ho 124 #[.int .i64 src, .slice (some ⟨go, 0, none⟩) N N, .slice (some ⟨gs, 0, none⟩) N N] ∧ Bk wx gs 4 (bools N fun _ => false) ∧ Bk wx go 27 (flo N fun _ => 0) ∧ w0.heap.size ≤ ho ∧ w0.heap.size ≤ gs ∧ w0.heap.size ≤ go ∧ Ext w0 wx)
  case first =>
    go_region
    all_goals
      go_wp2_with fail
      go_meet
      case rel =>
        apply Exists.intro
        apply Exists.intro
        apply Exists.intro
        refine ⟨rfl, ?k1, ?k2, ?k3, ?k4, ?k5, ?k6, (by repeat (first | exact Ext.refl _ | assumption | refine Ext.setCell ?_ (by first | (simp; done) | (simp; omega)) _ | refine Ext.drewN ?_ _ | refine Ext.alloc ?_ _ | refine Ext.drew ?_ | refine Ext.trans ?_ (by assumption)))⟩
        case k1 => first | exact Bk.drew (Bk.new' (by simp)) | exact Bk.drew ((Bk.new' (by simp)).alloc _) | exact Bk.drew (((Bk.new' (by simp)).alloc _).alloc _)
        case k2 => first | exact Bk.drew (Bk.new' (by simp)) | exact Bk.drew ((Bk.new' (by simp)).alloc _) | exact Bk.drew (((Bk.new' (by simp)).alloc _).alloc _)
        case k3 => first | exact Bk.drew (Bk.new' (by simp)) | exact Bk.drew ((Bk.new' (by simp)).alloc _) | exact Bk.drew (((Bk.new' (by simp)).alloc _).alloc _)
        case k4 => omega
        case k5 => omega
        case k6 => omega
  case rest =>
    obtain ⟨ho, gs, go, rfl, kO, kS, kF, l1, l2, l3, hx1⟩ := hcut
    have kG1 := kG.ext hx1
    have kR1 := kR.ext hx1
    have hor : ho ≠ w.heap.size + 1 := by omega
    clear c4a c4b c4 kG kR
    have c4 := kG1.cell 4
    have o2 := fun o => (kO.alloc o).cell 2
    have s0 : ∀ o, (wc.alloc o).cell? ⟨gs, src, none⟩ = some (.bool false) := fun o => by rw [(kS.alloc o).cell]; exact bools_get _ hs
    have f0 := fun o => (kS.alloc o).frozen src
    have j0 : (0 : Int) ≤ src := by omega
    have j1 : (src : Int) < N := by omega
    go_upto_region 5 with fail
    clear o2 s0 f0 c4 mb mf
    obtain ⟨w3, hw3⟩ : ∃ w3, w3 = (((wc.alloc (.cells (bools N fun _ => false) 4)).setCell ⟨gs, src, none⟩ (.bool true)).alloc (.cells #[.float .f32 0, .int .i64 (src : Int)] 169)).alloc (.cells #[.slice (some ⟨wc.heap.size + 1, 0, none⟩) 1 1] 171) := ⟨_, rfl⟩
    have hsz := hx1.size
    have hsz0 := hx0.size
    have hF : FM w w3 ho (wc.heap.size + 1 + 1) wc.heap.size gs go N src (fun _ => false) (updF (fun _ => false) src true) (fun _ => 0) (.slice (some ⟨wc.heap.size + 1, 0, none⟩) 1 1) [⟨0, (src : Int)⟩] true := by
      have hSl := kS.lt
      have hOl := kO.lt
      have hFl := kF.lt
      have a1 : Bk (wc.alloc (.cells (bools N fun _ => false) 4)) wc.heap.size 4 (bools N fun _ => false) := Bk.new' rfl
      have e2 := Bk.set (kS.alloc (.cells (bools N fun _ => false) 4)) src (.bool true)
      rw [bools_set] at e2
      have a2 := a1.far (p := ⟨gs, src, none⟩) (by show wc.heap.size ≠ gs; omega) (.bool true)
      have a3 := (kO.alloc (.cells (bools N fun _ => false) 4)).far (p := ⟨gs, src, none⟩) (Bk.ne kO kS (by decide)) (.bool true)
      have a4 := (kF.alloc (.cells (bools N fun _ => false) 4)).far (p := ⟨gs, src, none⟩) (Bk.ne kF kS (by decide)) (.bool true)
      rw [hw3]
      refine ⟨(a2.alloc _).alloc _, (e2.alloc _).alloc _, (a3.alloc _).alloc _, (a4.alloc _).alloc _, Bk.new' (by simp), ?_, ?_, fun _ => ?_, ?_, by omega, by omega, by omega, by omega, by omega⟩
      · refine OwnS.mk (rest := []) rfl (by omega) ?_ (by simp) (by unfold maxLen; simp) (by simp)
        unfold SB
        exact (Bk.new' (by simp)).alloc _
      · intro a ha
        simp at ha
        subst ha
        exact fin_zero
      · intro d d1 d2
        simp at d2
        omega
      · have h1 : Ext w (wc.alloc (.cells (bools N fun _ => false) 4)) := (hx0.trans hx1).alloc _
        exact (((h1.setCell (by show w.heap.size ≤ gs; omega) _).alloc _).alloc _)
    have kG3 : Bk w3 w.heap.size 115 #[.int .i64 X, .int .i64 Y, .int .i64 (Wn : Int), .int .i64 (Hn : Int), .slice A N c, .float .f32 R.gr, .float .f32 R.wt, .float .f32 R.br, .float .f32 R.de, .int .i64 (R.sp : Int), .slice C m cc] := by
      rw [hw3]
      exact (((kG1.alloc _).far (p := ⟨gs, src, none⟩) (Bk.ne kG1 kS (by decide)) _).alloc _).alloc _
    have kR3 : Bk w3 (w.heap.size + 1) 124 #[.int .i64 0, .slice none 0 0, .slice none 0 0] := by
      rw [hw3]
      exact (((kR1.alloc _).far (p := ⟨gs, src, none⟩) (Bk.ne kR1 kS (by decide)) _).alloc _).alloc _
    rw [← hw3]
    have hD3 := hidA (DR.start (N := N) (E := edA R (fun j => l.getD j 0) Wn Hn N) hs)
    have hlf := left_le N (fun _ => false)
    have hG3 := hidA (show 97 * left N (fun _ => false) + 1 ≤ 98 * N from by omega)
    have HF3 := hidA hF
    clear hlf hw3 kO kS kF kG1 kR1 hsz hsz0 hF hx1 l1 l2 l3
    generalize wc.heap.size + 1 + 1 = hh at *
    generalize wc.heap.size = gd at *
    have hhr : w.heap.size ≤ w.heap.size + 1 := by omega
    generalize w.heap.size + 1 = hr at *
    generalize hge : w.heap.size = hg at *
    have Hge := hidA hge
    have Hor := hidA hor
    have Hhr := hidA hhr
    clear hge hor hx0 hrlt hhr
    go_loopg [33] (98 * N) (fun gk s33 wr => ∃ (done seen : Nat → Bool) (out : Nat → Nat) (v : Value) (xs : List SpR), FM w wr ho hh gd gs go N src done seen out v xs true ∧ DR N (edA R (fun j => l.getD j 0) Wn Hn N) src none done seen out xs ∧ 97 * left N done + xs.length ≤ gk ∧ 97 * left N done + xs.length ≤ 98 * N ∧ Bk wr hg 115 #[.int .i64 X, .int .i64 Y, .int .i64 (Wn : Int), .int .i64 (Hn : Int), .slice A N c, .float .f32 R.gr, .float .f32 R.wt, .float .f32 R.br, .float .f32 R.de, .int .i64 (R.sp : Int), .slice C m cc] ∧ Bk wr hr 124 #[.int .i64 0, .slice none 0 0, .slice none 0 0] ∧ s33 = s33)
    case atStart => exact ⟨_, _, _, _, _, HF3.out, hD3.out, hG3.out, hG3.out, kG3, kR3, rfl⟩
    case round =>
      clear HF3 hD3 hG3 kG3 kR3
      obtain ⟨done, seen, out, v, xs, hF, hD, hgm, hg2, kG, kR, _⟩ := hrel
      obtain ⟨A', cap', hv⟩ := hF.own.shape
      subst hv
      have p0 := hF.pb.cell 0
      have HD := hidA hD
      have Hg := hidA hgm
      have Hg2 := hidA hg2
      clear hD hgm hg2
      by_cases hx0 : xs.length = 0
      · have hx0' := List.eq_nil_of_length_eq_zero hx0
        subst hx0'
        have o0 := hF.ob.cell 0
        have o1 := hF.ob.cell 1
        have o2 := hF.ob.cell 2
        have r0 := kR.cell 0
        have r1 := kR.cell 1
        have r2 := kR.cell 2
        have f0 := kR.frozen 0
        have f1 := kR.frozen 1
        have f2 := kR.frozen 2
        have HP := hidA HD.out.fin
        have HF := hidA hF
        have kR9 := ((kR.set 0 (.int .i64 src)).set 1 (.slice (some ⟨go, 0, none⟩) N N)).set 2 (.slice (some ⟨gs, 0, none⟩) N N)
        have kg9 : ∀ {g : Nat} {t : TypeId} {cs : Array Value}, Bk wr g t cs → g ≠ hr → Bk (((wr.setCell ⟨hr, 0, none⟩ (.int .i64 src)).setCell ⟨hr, 1, none⟩ (.slice (some ⟨go, 0, none⟩) N N)).setCell ⟨hr, 2, none⟩ (.slice (some ⟨gs, 0, none⟩) N N)) g t cs := fun hb hn => ((hb.far hn _).far hn _).far hn _
        have hg9 := kg9 HF.out.og (Bk.ne HF.out.og kR (by decide))
        have hs9 := kg9 HF.out.eg (Bk.ne HF.out.eg kR (by decide))
        have hx9 := ((HF.out.ext.setCell (p := ⟨hr, 0, none⟩) (by show w.heap.size ≤ hr; have := Hge.out; have := Hhr.out; omega) (.int .i64 src)).setCell (p := ⟨hr, 1, none⟩) (by show w.heap.size ≤ hr; have := Hge.out; have := Hhr.out; omega) (.slice (some ⟨go, 0, none⟩) N N)).setCell (p := ⟨hr, 2, none⟩) (by show w.heap.size ≤ hr; have := Hge.out; have := Hhr.out; omega) (.slice (some ⟨gs, 0, none⟩) N N)
        clear hx0 hF kg9
        have HG9 := hidA hg9
        have HS9 := hidA hs9
        have HX9 := hidA hx9
        have q0 := kR9.cell 0
        have q1 := kR9.cell 1
        have q2 := kR9.cell 2
        clear hg9 hs9 hx9 kR9
        go_wp2
        refine bodyPost_ret (v := .agg #[.int .i64 src, .slice (some ⟨go, 0, none⟩) N N, .slice (some ⟨gs, 0, none⟩) N N]) (by simp [results, Try.results108, go_sem, q0, q1, q2]) rfl ?_
        exact ⟨go, gs, out, seen, rfl, HF.out.b3, HF.out.b2, HG9.out, HS9.out, HP.out, HX9.out⟩
      · have hx1 : 0 < xs.length := by omega
        have hxb : xs.length ≤ 6553600 := by have := Hg2.out; omega
        have HP := hidA (HPop_any hh w.heap.size _ xs wr hF.hps hx1 (by omega))
        have hx2 : (0 : Int) < xs.length := by omega
        have HF := hidA hF
        clear hF hx0
        go_upto_region 7 with (go_at_call 124; refine HP.out.mono ?_; rintro e w6 ⟨a, ys, v', rfl, hperm, hlow, hps, hob, hfr⟩)
        have hF6 := FM.heap HF.out hfr hps
        have kG6 := hfr.bk kG (Bk.ne HF.out.pb kG (by decide)).symm (own_ne HF.out.own kG (by decide))
        have kR6 := hfr.bk kR (Bk.ne HF.out.pb kR (by decide)).symm (own_ne HF.out.own kR (by decide))
        have hne6 : v'.ownBlock ≠ some w6.heap.size := fun e => by have := (World.ownsRow.lt hps.own _ e).2; omega
        have hlen := hperm.length_eq
        obtain ⟨k0, hk0, hk0N, _, hsv, hsv0⟩ := (HD.out.perm hperm).cell
        obtain ⟨sv, sk⟩ := a
        dsimp only at hk0 hsv hsv0
        subst hk0
        have hD6 := HD.out.perm hperm
        obtain ⟨w7, hw7⟩ : ∃ w7, w7 = w6.alloc (.cells #[.float .f32 sv, .int .i64 (k0 : Int)] 169) := ⟨_, rfl⟩
        have hF7 := hF6.step ((Ext.refl w6).alloc (.cells #[.float .f32 sv, .int .i64 (k0 : Int)] 169))
        have hS7 : Bk w7 w6.heap.size 169 #[.float .f32 sv, .int .i64 (k0 : Int)] := by rw [hw7]; exact Bk.new' rfl
        have kG7 := kG6.alloc (.cells #[.float .f32 sv, .int .i64 (k0 : Int)] 169)
        have kR7 := kR6.alloc (.cells #[.float .f32 sv, .int .i64 (k0 : Int)] 169)
        rw [← hw7] at hF7 kG7 kR7 ⊢
        generalize w6.heap.size = hs0 at *
        have hlen2 : xs.length = ys.length + 1 := by simpa using hlen.symm
        have HD6 := hidA hD6
        have HL := hidA hlen2
        have Hlow := hidA hlow
        have Hne := hidA hne6
        have HF7 := hidA hF7
        have HS7 := hidA hS7
        clear hw7 hF6 hfr hps hob hperm hlow hlen hlen2 hD6 hx1 hx2 hxb p0 HP HF hne6 kG6 kR6 kG kR
        have d1 : w7.cell? ⟨gd, k0, none⟩ = some (.bool (done k0)) := by rw [hF7.dg.cell]; exact bools_get _ hk0N
        have s1 := hS7.cell 1
        have f0 := hF7.dg.frozen k0
        have j0 : (0 : Int) ≤ k0 := by omega
        have j1 : (k0 : Int) < N := by omega
        cases hdk : done k0
        · rw [hdk] at d1
          have Hdk := hidA hdk
          have hF8 := hidA (FM.mark hF7 k0)
          have hS8 := hidA (hS7.far (p := ⟨gd, k0, none⟩) (Bk.ne hS7 hF7.dg (by decide)) (.bool true))
          have kG8 := kG7.far (p := ⟨gd, k0, none⟩) (Bk.ne kG7 hF7.dg (by decide)) (.bool true)
          have kR8 := kR7.far (p := ⟨gd, k0, none⟩) (Bk.ne kR7 hF7.dg (by decide)) (.bool true)
          clear hdk hF7 hS7 kG7 kR7
          go_upto_region 9 with fail
          clear d1 s1 f0
          generalize w7.setCell ⟨gd, k0, none⟩ (.bool true) = w8 at *
          have s1 := hS8.out.cell 1
          have g0 := kG8.cell 0
          have g1 := kG8.cell 1
          have g2 := kG8.cell 2
          have g3 := kG8.cell 3
          have g4 := kG8.cell 4
          have g5 := kG8.cell 5
          have g6 := kG8.cell 6
          have g7 := kG8.cell 7
          have g8 := kG8.cell 8
          have g9 := kG8.cell 9
          have g10 := kG8.cell 10
          have HKR8 := hidA kR8
          have HI := hidA (each_any 126 #[.pointer (some ⟨hs0, 0, none⟩), .pointer (some ⟨ho, 0, none⟩), .pointer (some ⟨hh, 0, none⟩)] enters_prices X Y Wn Hn A N c R C m cc k0 l Hr.out HN.out HR.out Hl.out HH.out hk0N
            (fun L w' => ∃ (seen : Nat → Bool) (out : Nat → Nat) (v : Value) (zs : List SpR), FM w w' ho hh gd gs go N src (updF done k0 true) seen out v zs true ∧ Bk w' hs0 169 #[.float .f32 sv, .int .i64 (k0 : Int)] ∧ v.ownBlock ≠ some hs0 ∧ DR N (edA R (fun j => l.getD j 0) Wn Hn N) src (some (k0, L, valI sv)) (updF done k0 true) seen out zs ∧ zs.length + L.length ≤ ys.length + 96 ∧ (∃ L0, edA R (fun j => l.getD j 0) Wn Hn N k0 = L0 ++ L) ∧ Bk w' hr 124 #[.int .i64 0, .slice none 0 0, .slice none 0 0] ∧ Bk w' hg 115 #[.int .i64 X, .int .i64 Y, .int .i64 (Wn : Int), .int .i64 (Hn : Int), .slice A N c, .float .f32 R.gr, .float .f32 R.wt, .float .f32 R.br, .float .f32 R.de, .int .i64 (R.sp : Int), .slice C m cc])
            (fun L wa wb ⟨seen, out, v, zs, h1, h2, h3, h4, h5, h6, h7, h8⟩ hx => ⟨seen, out, v, zs, h1.step hx, h2.ext hx, h3, h4, h5, h6, h7.ext hx, h8.ext hx⟩)
            (fun L wa ⟨seen, out, v, zs, h1, _⟩ => ⟨hV.ext h1.ext, hC.ext h1.ext⟩)
            (fun t x L wa ⟨seen, out, v, zs, h1, h2, h3, h4, h5, ⟨L0, h6⟩, h7, h8⟩ ht hx hx0 => by
              have hzl : zs.length ≤ 10000000 := by have := Hg2.out; have := HL.out; omega
              obtain ⟨hadd, hb, _, _⟩ := sum_ok hsv hsv0 hx hx0
              have hmE : (t, x) ∈ edA R (fun j => l.getD j 0) Wn Hn N k0 := by rw [h6]; simp
              have h6' : ∃ L0, edA R (fun j => l.getD j 0) Wn Hn N k0 = L0 ++ L := ⟨L0 ++ [(t, x)], by rw [h6]; simp⟩
              refine (prices1_any w wa ho hh gd gs go hs0 N src sv k0 (updF done k0 true) seen out v zs t x h1 h2 h3 ht hadd (bd_Fin hb (by omega)) (by omega)).mono ?_
              rintro e wb ⟨rfl, hkp, v', qs, h9, h10, h11 | h11⟩
              · obtain ⟨hg, hp, hF9⟩ := h11
                refine ⟨rfl, ⟨_, _, v', qs, hF9, h9, h10, h4.push hmE ht hsv hsv0 hx hx0 hg hp, ?_, h6', hkp _ _ _ h7 (by decide) (by decide) (by decide) (by decide), hkp _ _ _ h8 (by decide) (by decide) (by decide) (by decide)⟩, fun g cs hb => hkp _ _ _ hb (by decide) (by decide) (by decide) (by decide)⟩
                rw [hp.length_eq]
                simp at h5 ⊢
                omega
              · obtain ⟨hg, rfl, rfl, hF9⟩ := h11
                refine ⟨rfl, ⟨_, _, v', qs, hF9, h9, h10, h4.stay ht hsv hsv0 hx hx0 hg, ?_, h6', hkp _ _ _ h7 (by decide) (by decide) (by decide) (by decide), hkp _ _ _ h8 (by decide) (by decide) (by decide) (by decide)⟩, fun g cs hb => hkp _ _ _ hb (by decide) (by decide) (by decide) (by decide)⟩
                simp at h5
                omega)
            w8 ⟨seen, out, v', ys, hF8.out, hS8.out, Hne.out, by have h := HD6.out.take rfl Hlow.out Hdk.out; rw [edA_at hk0N] at h; exact h, by have := edK_len HR.out (V := fun j => l.getD j 0) (Wn := Wn) (Hn := Hn) (k := k0); omega, ⟨[], (edA_at hk0N).trans (List.nil_append _).symm⟩, kR8, kG8⟩)
          unfold gcells at HI
          clear kR8 kG8
          go_wp2_with (go_at_call 125; refine HI.out.mono ?_; rintro e w9 ⟨rfl, seen', out', v9, zs, hF9, hS9, hn9, hD9, hl9, _, kR9, kG9⟩)
          have hlu := left_upd hk0N Hdk.out
          have HF9 := hidA hF9
          have HD9 := hidA hD9.all
          have HKR := hidA kR9
          have HKG := hidA kG9
          have Hcnt := hidA (show 97 * left N (updF done k0 true) + zs.length < gk from by have := Hg.out; have := HL.out; simp at hl9; omega)
          have Hcnt2 := hidA (show 97 * left N (updF done k0 true) + zs.length ≤ 98 * N from by have := Hg2.out; have := HL.out; simp at hl9; omega)
          clear hF9 hD9 hS9 hn9 hl9 hlu kR9 kG9 g0 g1 g2 g3 g4 g5 g6 g7 g8 g9 g10 s1
          go_wp2_with fail
          go_roundg (97 * left N (updF done k0 true) + zs.length)
          case measure => exact Hcnt.out
          case rel => exact ⟨_, _, _, _, _, HF9.out, HD9.out, Nat.le_refl _, Hcnt2.out, HKG.out, HKR.out, trivial⟩
        · rw [hdk] at d1
          have Hdk := hidA hdk
          have Hcnt := hidA (show 97 * left N done + ys.length < gk from by have := Hg.out; have := HL.out; omega)
          have Hcnt2 := hidA (show 97 * left N done + ys.length ≤ 98 * N from by have := Hg2.out; have := HL.out; omega)
          clear hdk hF7 hS7
          go_wp2_with fail
          go_roundg (97 * left N done + ys.length)
          case measure => exact Hcnt.out
          case rel => exact ⟨_, _, _, _, _, HF7.out, HD6.out.skip rfl Hdk.out, Nat.le_refl _, Hcnt2.out, kG7, kR7, trivial⟩
end Go.Proofs.Ytpgdinpckolfpaa
