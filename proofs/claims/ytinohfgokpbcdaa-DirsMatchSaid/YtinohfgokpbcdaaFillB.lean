/- Contract: water.filled: the least spills of all cells. -/
import Derived.Test.YtinohfgokpbcdaaFillR
import Derived.LoopTactic
import Derived.Shelf.Abstract
namespace Go.Proofs.Ytinohfgokpbcdaa
open Go.RowKit
attribute [local go_sem ↓] Go.wp_at_zero Go.wp_at_succ
attribute [local go_sem] run_store_float as_spill

theorem infoBool : (Try.prog.info? 4).map (fun i => (i.zero, i.size, i.bytes)) = some (some (.bool false), 1, 1) := by kernel_rfl
theorem infoFlo : (Try.prog.info? 27).map (fun i => (i.zero, i.size, i.bytes)) = some (some (.float .f32 0), 1, 4) := by kernel_rfl
theorem mk_bool (n : Nat) (hn : n ≤ 262144) (w : World) : (Instr.makeSlice 99 (.int .i64 (n : Int)) (.int .i64 (n : Int))).run Try.prog w =
    .ok (.slice (some ⟨w.heap.size, 0, none⟩) n n) (w.alloc (.cells (bools n fun _ => false) 4)) := by
  obtain ⟨i0, hi0, hz0, hz1, hz2⟩ := info_parts infoBool
  have h := run_make (P := Try.prog) w 99 4 i0 (.bool false) Try.underlying99 hi0 hz0 .i64 .i64 n n (by omega) (by omega) (by rw [hz2]; omega) (by omega)
  rw [hz1] at h
  have e : madeCells (Value.bool false).cells ((n : Int).toNat * 1) = bools n fun _ => false := by
    rw [Int.toNat_natCast]
    unfold madeCells bools
    apply Array.ext
    · simp
    · intro i h1 h2
      simp [Value.cells, Nat.mod_one]
  rw [e] at h
  simpa using h
theorem mk_flo (n : Nat) (hn : n ≤ 262144) (w : World) : (Instr.makeSlice 24 (.int .i64 (n : Int)) (.int .i64 (n : Int))).run Try.prog w =
    .ok (.slice (some ⟨w.heap.size, 0, none⟩) n n) (w.alloc (.cells (flo n fun _ => 0) 27)) := by
  obtain ⟨i0, hi0, hz0, hz1, hz2⟩ := info_parts infoFlo
  have h := run_make (P := Try.prog) w 24 27 i0 (.float .f32 0) Try.underlying24 hi0 hz0 .i64 .i64 n n (by omega) (by omega) (by rw [hz2]; omega) (by omega)
  rw [hz1] at h
  have e : madeCells (Value.float .f32 0).cells ((n : Int).toNat * 1) = flo n fun _ => 0 := by
    rw [Int.toNat_natCast]
    unfold madeCells flo
    apply Array.ext
    · simp
    · intro i h1 h2
      simp [Value.cells, Nat.mod_one]
  rw [e] at h
  simpa using h

theorem enters_fill : ∀ args w, (callFunc 138 args).run Try.prog w = .ok (.enter 138 args) w := enters_of Try.func138 (by kernel_rfl) rfl
theorem OwnS.shape {w : World} {base : Nat} {v : Value} {xs : List SpR} (h : OwnS w base v xs) : ∃ A cap, v = .slice A xs.length cap := by
  rcases h.2 with ⟨h1, h2⟩ | ⟨g, cap, cur, hv, _⟩
  · exact ⟨none, 0, by rw [h1]; simp [h2]⟩
  · exact ⟨_, cap, hv⟩
theorem FM.heap2 {W0 w : World} {hf hsl hd hse ho hh gd gs go : Nat} {X Y : Int} {Wn Hn N : Nat} {A : Option Addr} {c slope : Nat} {done seen : Nat → Bool} {out : Nat → Nat} {v : Value} {xs : List SpR} {q : Bool}
    (h : FM W0 w hf hsl hd hse ho hh gd gs go X Y Wn Hn N A c slope done seen out v xs q) {w' : World} {v' : Value} {ys : List SpR} (hf' : Fr w w' hh v.ownBlock) (pb : Bk w' hh 171 #[v']) (own : OwnS w' W0.heap.size v' ys) (fin : AllFin ys) : FM W0 w' hf hsl hd hse ho hh gd gs go X Y Wn Hn N A c slope done seen out v' ys false := by
  have g1 : ∀ {g : Nat} {t : TypeId} {cs : Array Value}, Bk w g t cs → 171 ≠ t → 173 ≠ t → Bk w' g t cs := fun hb n1 n2 => hf'.bk hb (Bk.ne h.pb hb n1).symm (own_ne h.own hb n2)
  exact ⟨g1 h.fb (by decide) (by decide), g1 h.sl (by decide) (by decide), g1 h.db (by decide) (by decide), g1 h.dg (by decide) (by decide), g1 h.eb (by decide) (by decide), g1 h.eg (by decide) (by decide), g1 h.ob (by decide) (by decide), g1 h.og (by decide) (by decide), pb, own, fin, (fun e => by cases e),
    hf'.to_ext h.ext h.b4 (fun k hk => (World.ownsRow.lt h.own k hk).1), h.n1, h.n2, h.b1, h.b2, h.b3, h.b4⟩
/-- a cell is done -/
theorem FM.mark {W0 w : World} {hf hsl hd hse ho hh gd gs go : Nat} {X Y : Int} {Wn Hn N : Nat} {A : Option Addr} {c slope : Nat} {done seen : Nat → Bool} {out : Nat → Nat} {v : Value} {xs : List SpR} {q : Bool}
    (h : FM W0 w hf hsl hd hse ho hh gd gs go X Y Wn Hn N A c slope done seen out v xs q) (k : Nat) : FM W0 (w.setCell ⟨gd, k, none⟩ (.bool true)) hf hsl hd hse ho hh gd gs go X Y Wn Hn N A c slope (updF done k true) seen out v xs q := by
  have e1 := Bk.set h.dg k (.bool true)
  rw [bools_set] at e1
  have f1 : ∀ {g : Nat} {t : TypeId} {cs : Array Value}, Bk w g t cs → g ≠ gd → Bk (w.setCell ⟨gd, k, none⟩ (.bool true)) g t cs := fun hb hn => hb.far hn _
  exact ⟨f1 h.fb (Bk.ne h.fb h.dg (by decide)), f1 h.sl (Bk.ne h.sl h.dg (by decide)), f1 h.db (Bk.ne h.db h.dg (by decide)), e1, f1 h.eb (Bk.ne h.eb h.dg (by decide)), f1 h.eg h.n1.symm, f1 h.ob (Bk.ne h.ob h.dg (by decide)), f1 h.og (Bk.ne h.og h.dg (by decide)),
    f1 h.pb (Bk.ne h.pb h.dg (by decide)), h.own.set h.dg (by decide) _, h.fin, h.hq, h.ext.setCell h.b1 _, h.n1, h.n2, h.b1, h.b2, h.b3, h.b4⟩
theorem FM.app {W0 w : World} {hf hsl hd hse ho hh gd gs go : Nat} {X Y : Int} {Wn Hn N : Nat} {A : Option Addr} {c slope : Nat} {done seen : Nat → Bool} {out : Nat → Nat} {v : Value} {xs : List SpR} {q : Bool}
    (h : FM W0 w hf hsl hd hse ho hh gd gs go X Y Wn Hn N A c slope done seen out v xs q) {w' : World} {o : Obj} {v' : Value} {a : SpR} (hg : (w.alloc o).grownBy w' v.ownBlock) (hown : w'.ownsRow W0.heap.size 173 2 v' (xs.length + 1) (scells xs ++ [.float .f32 a.v, .int .i64 a.k])) (ha : Fin a.v) :
    FM W0 (w'.setCell ⟨hh, 0, none⟩ v') hf hsl hd hse ho hh gd gs go X Y Wn Hn N A c slope done seen out v' (xs ++ [a]) false := by
  have hB1 := Bk.grown (h.pb.alloc o) hg (own_ne h.own h.pb (by decide))
  refine h.heap2 (Fr.set (Fr.grown (Fr.ext (Fr.refl w _ _) ((Ext.refl w).alloc o)) hg) 0 v') (hB1.set 0 v') ?_ (fun b hb => ?_)
  · have hne : some hh ≠ v'.ownBlock := own_ne hown hB1 (by decide)
    unfold OwnS
    rw [List.length_append, scells_append]
    exact ownsRow_setCell_other hown (fun e => hne e.symm) _
  · rcases List.mem_append.1 hb with h1 | h1
    · exact h.fin b h1
    · simp at h1
      subst h1
      exact ha

/-- what filled returns -/
def FillPost (Wn Hn N slope : Nat) (l : List Nat) (w : World) (e : Ending) (w' : World) : Prop := ∃ g out, e = .returned (.slice (some ⟨g, 0, none⟩) N N) ∧ w.heap.size ≤ g ∧ Bk w' g 27 (flo N out) ∧ LeastG Wn Hn (fun k => l.getD k 0) slope (fun k => valI (out k)) ∧ (∀ k, k < N → Bd 36 (out k)) ∧ Ext w w'
set_option maxRecDepth 100000 in
set_option maxHeartbeats 6400000 in
theorem filled_any (X Y : Int) (Wn Hn N : Nat) (A : Option Addr) (c slope : Nat) (l : List Nat) (w : World) (hr : Reg X Y Wn Hn) (hN : N = Wn * Hn) (hl : l.length = N) (hV : Rd w A (flt l)) (hh : ∀ x ∈ l, Bd 20 x) (hs : Bd 10 slope) (h0 : 0 ≤ valI slope) :
    Calls Try.prog 83 #[.agg #[.int .i64 X, .int .i64 Y, .int .i64 (Wn : Int), .int .i64 (Hn : Int), .slice A N c], .float .f32 slope] w fun e w' => FillPost Wn Hn N slope l w e w' := by
  have hN6 : N ≤ 65536 := by rw [hN]; exact hr.n
  have hN1 : 1 ≤ N := by rw [hN]; exact Nat.mul_pos hr.w1 hr.h1
  have mb := mk_bool N (by omega)
  have mf := mk_flo N (by omega)
  have hlk : ∀ j, j < N → Bd 20 (l.getD j 0) := fun j hj => by
    have hjl : j < l.length := by omega
    have e : l.getD j 0 = l[j] := by simp [List.getD_eq_getElem?_getD, hjl]
    rw [e]
    exact hh _ (List.getElem_mem hjl)
  have Hr := hidA hr
  have HN := hidA hN
  have Hl := hidA hl
  have Hh := hidA hlk
  have Hs := hidA hs
  have H0 := hidA h0
  obtain ⟨i0, hi0, hz0, hz1, hz2⟩ := info_parts infoSp
  clear hr hN hl hh hlk hs h0
  obtain ⟨w1, hw1⟩ : ∃ w1, w1 = ((((((((w.alloc (.cells #[.int .i64 X, .int .i64 Y, .int .i64 (Wn : Int), .int .i64 (Hn : Int), .slice A N c] 26)).alloc (.cells #[.float .f32 slope] 27)).alloc (.cells (flo N fun _ => 0) 27)).alloc (.cells #[.slice (some ⟨w.heap.size + 1 + 1, 0, none⟩) N N] 24)).alloc (.cells (bools N fun _ => false) 4)).alloc (.cells #[.slice (some ⟨w.heap.size + 1 + 1 + 1 + 1, 0, none⟩) N N] 99)).alloc (.cells (bools N fun _ => false) 4)).alloc (.cells #[.slice (some ⟨w.heap.size + 1 + 1 + 1 + 1 + 1 + 1, 0, none⟩) N N] 99)).alloc (.cells #[.slice none 0 0] 171) := ⟨_, rfl⟩
  have hF1 : FM w w1 w.heap.size (w.heap.size + 1) (w.heap.size + 1 + 1 + 1 + 1 + 1) (w.heap.size + 1 + 1 + 1 + 1 + 1 + 1 + 1) (w.heap.size + 1 + 1 + 1) (w.heap.size + 1 + 1 + 1 + 1 + 1 + 1 + 1 + 1) (w.heap.size + 1 + 1 + 1 + 1) (w.heap.size + 1 + 1 + 1 + 1 + 1 + 1) (w.heap.size + 1 + 1) X Y Wn Hn N A c slope (fun _ => false) (fun _ => false) (fun _ => 0) (.slice none 0 0) [] false := by
    rw [hw1]
    refine ⟨?_, ?_, ?_, ?_, ?_, ?_, ?_, ?_, ?_, OwnS.nil _ _, (fun a ha => by cases ha), (fun e => by cases e), ?_, by omega, by omega, by omega, by omega, by omega, by omega⟩
    · exact (((((((((Bk.new' rfl).alloc _).alloc _).alloc _).alloc _).alloc _).alloc _).alloc _).alloc _)
    · refine ((((((((Bk.new' ?_).alloc _).alloc _).alloc _).alloc _).alloc _).alloc _).alloc _)
      simp
    · refine ((((Bk.new' ?_).alloc _).alloc _).alloc _)
      simp
    · refine (((((Bk.new' ?_).alloc _).alloc _).alloc _).alloc _)
      simp
    · refine ((Bk.new' ?_).alloc _)
      simp
    · refine (((Bk.new' ?_).alloc _).alloc _)
      simp
    · refine ((((((Bk.new' ?_).alloc _).alloc _).alloc _).alloc _).alloc _)
      simp
    · refine (((((((Bk.new' ?_).alloc _).alloc _).alloc _).alloc _).alloc _).alloc _)
      simp
    · refine (Bk.new' ?_)
      simp
    · exact ((((((((((Ext.refl w).alloc _).alloc _).alloc _).alloc _).alloc _).alloc _).alloc _).alloc _).alloc _)
  go_enter Try.func83, Try.ntmps83
  go_upto_region 5 with fail
  rw [← hw1]
  clear hw1 mb mf
  generalize w.heap.size + 1 + 1 + 1 + 1 + 1 + 1 + 1 + 1 = hh at *
  generalize w.heap.size + 1 + 1 + 1 + 1 + 1 + 1 + 1 = hse at *
  generalize w.heap.size + 1 + 1 + 1 + 1 + 1 + 1 = gs at *
  generalize w.heap.size + 1 + 1 + 1 + 1 + 1 = hd at *
  generalize w.heap.size + 1 + 1 + 1 + 1 = gd at *
  generalize w.heap.size + 1 + 1 + 1 = ho at *
  generalize w.heap.size + 1 + 1 = go at *
  generalize w.heap.size + 1 = hsl at *
  generalize hfe : w.heap.size = hf at hF1 ⊢
  have Hfe := hidA hfe
  clear hfe
  have c4 := hF1.fb.cell 4
  go_wp2
  clear c4
  go_loopw [27] (fun s27 wr => ∃ (k : Nat) (seen : Nat → Bool) (out : Nat → Nat) (v : Value) (xs : List SpR), k ≤ N ∧ s27 = .int .i64 k ∧ FM w wr hf hsl hd hse ho hh gd gs go X Y Wn Hn N A c slope (fun _ => false) seen out v xs false ∧ BI Wn Hn k l seen out xs) (fun s27 _ => N - (intOf s27).toNat)
  case atStart => exact ⟨0, _, _, _, _, Nat.zero_le _, rfl, hF1, BI.zero Wn Hn l⟩
  case round =>
    clear hF1
    obtain ⟨k, seen, out, v, xs, hk, rfl, hF, hB⟩ := hrel
    have HB := hidA hB
    clear hB
    by_cases hkN : k < N
    · have hkl : k < l.length := by have := Hl.out; omega
      obtain ⟨ad, rfl, hbk, hcv⟩ := (hV.ext hF.ext).at (k := k) (by rw [flt_length]; exact hkl)
      have ck := hcv k _ (flt_get hkl)
      have el : l.getD k 0 = l[k] := by simp [List.getD_eq_getElem?_getD, hkl]
      obtain ⟨x0, hx0⟩ : ∃ x0, x0 = l.getD k 0 := ⟨_, rfl⟩
      rw [← el, ← hx0] at ck
      have Hx0 := hidA hx0
      clear hcv el hx0
      have c0 := hF.fb.cell 0
      have c1 := hF.fb.cell 1
      have c2 := hF.fb.cell 2
      have c3 := hF.fb.cell 3
      have HBo := fun (w : World) => hidA (border_any X Y Wn Hn k w Hr.out (by rw [← HN.out]; exact hkN))
      unfold rgv at HBo
      cases hb : brd Wn Hn k
      · have Hb := hidA hb
        rw [hb] at HBo
        clear hb
        go_wp2_with (go_at_call 131; refine ((HBo _).out).mono ?_; rintro e w2 ⟨rfl, hx2⟩)
        go_roundw
        case rel => exact ⟨k + 1, seen, out, v, xs, by omega, by go_num, hF.step hx2, HB.out.pass Hb.out⟩
        case measure => simp [intOf]; omega
      · have Hb := hidA hb
        rw [hb] at HBo
        clear hb
        go_upto_region 9 with (go_at_call 131; refine ((HBo _).out).mono ?_; rintro e w2 ⟨rfl, hx2⟩)
        have hF2 := hF.step hx2
        have hxl := HB.out.s4
        clear c0 c1 c2 c3 ck hF
        have p0 := hF2.pb.cell 0
        have p1 := hF2.pb.frozen 0
        have hpm := (hF2.pb.alloc (.cells #[.float .f32 x0, .int .i64 (k : Int)] 173))
        have hnews : Hid (∀ j u, ([Value.float .f32 x0, .int .i64 (k : Int)] : List Value)[j]? = some u → (w2.alloc (.cells #[.float .f32 x0, .int .i64 (k : Int)] 173)).cell? ((⟨w2.heap.size, 0, none⟩ : Addr).add j) = some u) := World.news_of_block (cs := #[.float .f32 x0, .int .i64 (k : Int)]) (t := 173) (fr := (0, 0)) (heap_alloc_new w2 _)
        have hone : Hid (∀ u ∈ ([Value.float .f32 x0, .int .i64 (k : Int)] : List Value), u.oneCell' = true) := by intro u hu; simp at hu; rcases hu with rfl | rfl <;> rfl
        have hown2 := hidA (hF2.own.ext ((Ext.refl w2).alloc (.cells #[.float .f32 x0, .int .i64 (k : Int)] 173)))
        have hs2 : w.heap.size ≤ w2.heap.size := hF2.ext.size
        have HF2 := hidA hF2
        have hne2 := hidA (own_ne hF2.own hF2.pb (by decide))
        have Hpm := hidA hpm
        clear hF2 hpm
        go_upto_region 10 with (at_builtin; (refine wpList_append_lies _ (by rfl) (.tmp 36) (.tmp 40) 171 (by rfl) w.heap.size 173 i0 (.agg #[.float .f32 0, .int .i64 0]) 2 16 Try.underlying171 hi0 hz0 hz1 hz2 (by rfl) (by decide) v xs.length (scells xs) (by rfl) hown2.out ⟨w2.heap.size, 0, none⟩ 1 1 [.float .f32 x0, .int .i64 (k : Int)] (by rfl) (by rfl) hnews.out hone.out (by omega) (by unfold maxLen; omega) (by omega) (by rw [World.size_alloc]; omega) (w2.heap.size + 1) (by simp) ?_; intro g cap w3 hown3 hgrow3 hat hlt; have hB3 := Bk.grown Hpm.out hgrow3 hne2.out; have d0 := hB3.cell 0; have d1 := hB3.frozen 0; clear hB3))
        have hF4 := HF2.out.app (a := ⟨x0, (k : Int)⟩) hgrow3 hown3 (bd_Fin (by rw [Hx0.out]; exact Hh.out k hkN) (by omega : 20 ≤ 127))
        clear d0 d1 hgrow3 hown3 hat hlt hnews hone hown2 HF2 hne2 Hpm p0 p1
        generalize w3.setCell ⟨hh, 0, none⟩ (.slice (some ⟨g, 0, none⟩) (xs.length + 1) cap) = w4 at *
        have HF := hidA hF4
        have HP4 := hidA (hF4.put k x0)
        have hgo : go ≠ gs := Bk.ne hF4.og hF4.eg (by decide)
        have e0 := hF4.eb.cell 0
        have e1 : w4.cell? ⟨gs, k, none⟩ = some (.bool (seen k)) := by rw [hF4.eg.cell]; exact bools_get _ hkN
        have o0 := hF4.ob.cell 0
        have o1 : w4.cell? ⟨go, k, none⟩ = some (.float .f32 (out k)) := by rw [hF4.og.cell]; exact flo_get _ hkN
        have f1 := hF4.eg.frozen k
        have f2 := hF4.og.frozen k
        have j0 : (0 : Int) ≤ k := by omega
        have j1 : (k : Int) < N := by omega
        have q1 : (w4.setCell ⟨go, k, none⟩ (.float .f32 x0)).cell? ⟨gs, k, none⟩ = some (.bool (seen k)) := by rw [(HF.out.eg.far (p := ⟨go, k, none⟩) (Ne.symm hgo) (.float .f32 x0)).cell]; exact bools_get _ hkN
        have q2 : (w4.setCell ⟨gs, k, none⟩ (.bool true)).cell? ⟨go, k, none⟩ = some (.float .f32 (out k)) := by rw [(HF.out.og.far (p := ⟨gs, k, none⟩) hgo (.bool true)).cell]; exact flo_get _ hkN
        have q3 : (w4.setCell ⟨go, k, none⟩ (.float .f32 x0)).cell? ⟨hse, 0, none⟩ = some (.slice (some ⟨gs, 0, none⟩) N N) := (HF.out.eb.far (p := ⟨go, k, none⟩) (Bk.ne HF.out.eb HF.out.og (by decide)) (.float .f32 x0)).cell 0
        have q4 : (w4.setCell ⟨gs, k, none⟩ (.bool true)).cell? ⟨ho, 0, none⟩ = some (.slice (some ⟨go, 0, none⟩) N N) := (HF.out.ob.far (p := ⟨gs, k, none⟩) (Bk.ne HF.out.ob HF.out.eg (by decide)) (.bool true)).cell 0
        clear hF4 hgo
        go_region
        clear e0 e1 o0 o1 f1 f2 q1 q2 q3 q4
        have hF5 := HP4.out.step (Ext.drew (Ext.refl _))
        have hB5 := HB.out.next Hb.out
        rw [← Hx0.out] at hB5
        have HB5 := hidA hB5
        clear hB5
        go_wp2
        go_roundw
        case rel => exact ⟨k + 1, _, _, _, _, by omega, by go_num, hF5, HB5.out⟩
        case measure => simp [intOf]; omega
    · have hkN' : N = k := by omega
      subst hkN'
      have hxl := HB.out.s4
      have hx1 : 0 < xs.length := List.length_pos_of_mem (HB.out.s1 0 (by omega) (by unfold brd; simp)).2.2
      have HI := hidA (Init_any hh w.heap.size v xs wr hF.pb hF.own (HB.out.fin Hh.out) hx1 (by omega))
      go_upto_region 12 with fail
      go_wp2_with (go_at_call 136; refine HI.out.mono ?_; rintro e w5 ⟨rfl, ys, hp, hps, hgr⟩)
      have hF5 := FM.heap hF (Fr.grown (Fr.refl wr hh _) hgr) hps
      have hD5 := DS.start (slope := slope) HB.out hp Hh.out
      have hyl := hp.length_eq
      have hlf := left_le N (fun _ => false)
      have HF5 := hidA hF5
      have HD5 := hidA hD5
      have Hg5 := hidA (show 9 * left N (fun _ => false) + ys.length ≤ 10 * N from by omega)
      clear HI hps hgr hp hF hF5 hD5 hyl hlf hx1 hxl HB
      go_loopg [52] (10 * N) (fun gk s52 wr => ∃ (done seen : Nat → Bool) (out : Nat → Nat) (v : Value) (xs : List SpR), FM w wr hf hsl hd hse ho hh gd gs go X Y Wn Hn N A c slope done seen out v xs true ∧ DS Wn Hn N slope l none done seen out xs ∧ 9 * left N done + xs.length ≤ gk ∧ 9 * left N done + xs.length ≤ 10 * N ∧ s52 = s52)
      case atStart => exact ⟨_, _, _, _, _, HF5.out, HD5.out, Hg5.out, Hg5.out, rfl⟩
      case round =>
        clear HF5 HD5 Hg5
        obtain ⟨done, seen, out, v, xs, hF, hD, hg, hg2, _⟩ := hrel
        obtain ⟨A', cap', hv⟩ := hF.own.shape
        subst hv
        have p0 := hF.pb.cell 0
        have HD := hidA hD
        have Hg := hidA hg
        have Hg2 := hidA hg2
        clear hD hg hg2
        by_cases hx0 : xs.length = 0
        · have hx0' := List.eq_nil_of_length_eq_zero hx0
          subst hx0'
          have o0 := hF.ob.cell 0
          have hend := HD.out.least Hr.out.w1 HN.out
          have Hend := hidA hend
          clear hend hx0
          go_wp2
          go_ret
          exact ⟨go, out, rfl, hF.b3, hF.og, Hend.out.1, Hend.out.2, hF.ext⟩
        · have hx1 : 0 < xs.length := by omega
          have hxb : xs.length ≤ 655360 := by have := Hg2.out; omega
          have HP := hidA (HPop_any hh w.heap.size _ xs wr hF.hps hx1 (by omega))
          have hx2 : (0 : Int) < xs.length := by omega
          have HF := hidA hF
          clear hF hx0
          go_upto_region 15 with (go_at_call 137; refine HP.out.mono ?_; rintro e w6 ⟨a, ys, v', rfl, hperm, hlow, hps, hob, hfr⟩)
          have hlt := HF.out
          have hF6 := FM.heap HF.out hfr hps
          have hne6 : v'.ownBlock ≠ some w6.heap.size := fun e => by have := (World.ownsRow.lt hps.own _ e).2; omega
          have hlen := hperm.length_eq
          obtain ⟨k0, hk0, hk0N, _, hsv⟩ := (HD.out.perm hperm).cell
          obtain ⟨sv, sk⟩ := a
          dsimp only at hk0 hsv
          subst hk0
          have hD6 := HD.out.perm hperm
          obtain ⟨w7, hw7⟩ : ∃ w7, w7 = w6.alloc (.cells #[.float .f32 sv, .int .i64 (k0 : Int)] 173) := ⟨_, rfl⟩
          have hF7 := hF6.step ((Ext.refl w6).alloc (.cells #[.float .f32 sv, .int .i64 (k0 : Int)] 173))
          have hS7 : Bk w7 w6.heap.size 173 #[.float .f32 sv, .int .i64 (k0 : Int)] := by rw [hw7]; exact Bk.new' rfl
          rw [← hw7] at hF7 ⊢
          generalize w6.heap.size = hs at *
          have hlen2 : xs.length = ys.length + 1 := by simpa using hlen.symm
          have HD6 := hidA hD6
          have HL := hidA hlen2
          have Hlow := hidA hlow
          have Hne := hidA hne6
          have HF7 := hidA hF7
          have HS7 := hidA hS7
          clear hw7 hF6 hfr hps hob hperm hlow hlen hlen2 hD6 hlt hx1 hx2 hxb p0 HP HF hne6
          have d0 := hF7.db.cell 0
          have d1 : w7.cell? ⟨gd, k0, none⟩ = some (.bool (done k0)) := by rw [hF7.dg.cell]; exact bools_get _ hk0N
          have s1 := hS7.cell 1
          have f0 := hF7.dg.frozen k0
          have j0 : (0 : Int) ≤ k0 := by omega
          have j1 : (k0 : Int) < N := by omega
          cases hdk : done k0
          · rw [hdk] at d1
            have Hdk := hidA hdk
            have hF8 := hidA (FM.mark hF7 k0)
            have hS8 := hidA (hS7.far (p := ⟨gd, k0, none⟩) (Bk.ne hS7 hF7.dg (by decide)) (.bool true))
            clear hdk hF7 hS7
            go_upto_region 17 with fail
            clear d0 d1 s1 f0
            generalize w7.setCell ⟨gd, k0, none⟩ (.bool true) = w8 at *
            have c0 := hF8.out.fb.cell 0
            have c1 := hF8.out.fb.cell 1
            have c2 := hF8.out.fb.cell 2
            have c3 := hF8.out.fb.cell 3
            have s1 := hS8.out.cell 1
            have HI := hidA (nbs_any 138 #[.pointer (some ⟨hf, 0, none⟩), .pointer (some ⟨hs, 0, none⟩), .pointer (some ⟨hsl, 0, none⟩), .pointer (some ⟨hd, 0, none⟩), .pointer (some ⟨hse, 0, none⟩), .pointer (some ⟨ho, 0, none⟩), .pointer (some ⟨hh, 0, none⟩)] enters_fill X Y Wn Hn k0 Hr.out (by rw [← HN.out]; exact hk0N)
              (fun d w' => ∃ (seen : Nat → Bool) (out : Nat → Nat) (v : Value) (zs : List SpR), FM w w' hf hsl hd hse ho hh gd gs go X Y Wn Hn N A c slope (updF done k0 true) seen out v zs true ∧ Bk w' hs 173 #[.float .f32 sv, .int .i64 (k0 : Int)] ∧ v.ownBlock ≠ some hs ∧ DS Wn Hn N slope l (some (k0, d, valI sv)) (updF done k0 true) seen out zs ∧ zs.length ≤ ys.length + d)
              (fun d wa wb ⟨seen, out, v, zs, h1, h2, h3, h4, h5⟩ hx => ⟨seen, out, v, zs, h1.step hx, h2.ext hx, h3, h4, h5⟩)
              (fun d n wa hd8 hnb ⟨seen, out, v, zs, h1, h2, h3, h4, h5⟩ => by
                have hnN : n < N := by rw [HN.out]; exact nbr_lt hnb
                have hzl : zs.length ≤ 10000000 := by have := Hg2.out; have := HL.out; omega
                have hadd := (fadd_ok hsv (Hs.out.mono (by omega : 10 ≤ 36)) (by omega)).1
                refine (fill1_any w wa hf hsl hd hse ho hh gd gs go hs X Y Wn Hn N A c slope sv k0 (updF done k0 true) seen out v zs l n d h1 h2 h3 Hl.out hV hnN hadd (bd_Fin (relV_bd (Hh.out n hnN) hsv Hs.out H0.out) (by omega)) hzl).mono ?_
                rintro e wb ⟨rfl, hreg, v', qs, h6, h7, h8 | h8⟩
                · obtain ⟨hg, hp, hF9⟩ := h8
                  refine ⟨rfl, ⟨_, _, v', qs, hF9, h6, h7, h4.push hd8 hnb hnN (Hh.out n hnN) hsv Hs.out H0.out hg hp, ?_⟩, hreg⟩
                  rw [hp.length_eq]
                  simp
                  omega
                · obtain ⟨hg, rfl, rfl, hF9⟩ := h8
                  exact ⟨rfl, ⟨_, _, v', qs, hF9, h6, h7, h4.stay hnb hnN (Hh.out n hnN) hsv Hs.out H0.out hg, by omega⟩, hreg⟩)
              (fun d wa hd8 hnb ⟨seen, out, v, zs, h1, h2, h3, h4, h5⟩ => ⟨seen, out, v, zs, h1, h2, h3, h4.miss hnb, by omega⟩)
              w8 ⟨seen, out, v', ys, hF8.out, hS8.out, Hne.out, HD6.out.take rfl Hlow.out Hdk.out, by omega⟩)
            unfold rgv at HI
            go_wp2_with (go_at_call 128; refine HI.out.mono ?_; rintro e w9 ⟨rfl, seen', out', v9, zs, hF9, hS9, hn9, hD9, hl9⟩)
            have hlu := left_upd hk0N Hdk.out
            have HF9 := hidA hF9
            have HD9 := hidA hD9.all
            have Hcnt := hidA (show 9 * left N (updF done k0 true) + zs.length < gk from by have := Hg.out; have := HL.out; omega)
            have Hcnt2 := hidA (show 9 * left N (updF done k0 true) + zs.length ≤ 10 * N from by have := Hg2.out; have := HL.out; omega)
            clear hF9 hD9 hS9 hn9 hl9 hlu c0 c1 c2 c3 s1
            go_wp2_with fail
            go_roundg (9 * left N (updF done k0 true) + zs.length)
            case measure => exact Hcnt.out
            case rel => exact ⟨_, _, _, _, _, HF9.out, HD9.out, Nat.le_refl _, Hcnt2.out, trivial⟩
          · rw [hdk] at d1
            have Hdk := hidA hdk
            have Hcnt := hidA (show 9 * left N done + ys.length < gk from by have := Hg.out; have := HL.out; omega)
            have Hcnt2 := hidA (show 9 * left N done + ys.length ≤ 10 * N from by have := Hg2.out; have := HL.out; omega)
            clear hdk hF7 hS7
            go_wp2_with fail
            go_roundg (9 * left N done + ys.length)
            case measure => exact Hcnt.out
            case rel => exact ⟨_, _, _, _, _, HF7.out, HD6.out.skip rfl Hdk.out, Nat.le_refl _, Hcnt2.out, trivial⟩
end Go.Proofs.Ytinohfgokpbcdaa
