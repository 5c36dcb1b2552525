/- Contracts: field.Result, tarnlaw2.empty of nothing; lists of heights. -/
import Derived.Test.YtinohfgokpbcdaaDsAE
import Derived.LoopTactic
import Derived.Shelf.Abstract
import Derived.Test.YtinohfgokpbcdaaDsAA
import Derived.Test.YtinohfgokpbcdaaDsAC
namespace Go.Proofs.Ytinohfgokpbcdaa
open Go.RowKit
attribute [local go_sem ↓] Go.wp_at_zero Go.wp_at_succ
attribute [local go_sem] run_store_float as_spill

theorem infoBool : (Try.prog.info? 4).map (fun i => (i.zero, i.size, i.bytes)) = some (some (.bool false), 1, 1) := by kernel_rfl
theorem infoFlo : (Try.prog.info? 27).map (fun i => (i.zero, i.size, i.bytes)) = some (some (.float .f32 0), 1, 4) := by kernel_rfl
theorem mk_bool (n : Nat) (hn : n ≤ 262144) (w : World) : (Instr.makeSlice 99 (.int .i64 (n : Int)) (.int .i64 (n : Int))).run Try.prog w =
    .ok (.slice (some ⟨w.heap.size, 0, none⟩) n n) (w.alloc (.cells (bools n fun _ => false) 4)) := by
  obtain ⟨i0, hi0, hz0, hz1, hz2⟩ := info_parts infoBool
  have h := run_make (P := Try.prog) w 99 4 i0 (.bool false) Try.underlying99 hi0 hz0 .i64 .i64 n n (by omega) (by omega) (by rw [hz2]; omega) (by omega)
  rw [hz1] at h
  have e : madeCells (Value.bool false).cells ((n : Int).toNat * 1) = bools n fun _ => false := by
    rw [Int.toNat_natCast]
    unfold madeCells bools
    apply Array.ext
    · simp
    · intro i h1 h2
      simp [Value.cells, Nat.mod_one]
  rw [e] at h
  simpa using h
theorem mk_flo (n : Nat) (hn : n ≤ 262144) (w : World) : (Instr.makeSlice 24 (.int .i64 (n : Int)) (.int .i64 (n : Int))).run Try.prog w =
    .ok (.slice (some ⟨w.heap.size, 0, none⟩) n n) (w.alloc (.cells (flo n fun _ => 0) 27)) := by
  obtain ⟨i0, hi0, hz0, hz1, hz2⟩ := info_parts infoFlo
  have h := run_make (P := Try.prog) w 24 27 i0 (.float .f32 0) Try.underlying24 hi0 hz0 .i64 .i64 n n (by omega) (by omega) (by rw [hz2]; omega) (by omega)
  rw [hz1] at h
  have e : madeCells (Value.float .f32 0).cells ((n : Int).toNat * 1) = flo n fun _ => 0 := by
    rw [Int.toNat_natCast]
    unfold madeCells flo
    apply Array.ext
    · simp
    · intro i h1 h2
      simp [Value.cells, Nat.mod_one]
  rw [e] at h
  simpa using h

theorem enters_fill : ∀ args w, (callFunc 138 args).run Try.prog w = .ok (.enter 138 args) w := enters_of Try.func138 (by kernel_rfl) rfl
theorem OwnS.shape {w : World} {base : Nat} {v : Value} {xs : List SpR} (h : OwnS w base v xs) : ∃ A cap, v = .slice A xs.length cap := by
  rcases h.2 with ⟨h1, h2⟩ | ⟨g, cap, cur, hv, _⟩
  · exact ⟨none, 0, by rw [h1]; simp [h2]⟩
  · exact ⟨_, cap, hv⟩
theorem FM.heap2 {W0 w : World} {hf hsl hd hse ho hh gd gs go : Nat} {X Y : Int} {Wn Hn N : Nat} {A : Option Addr} {c slope : Nat} {done seen : Nat → Bool} {out : Nat → Nat} {v : Value} {xs : List SpR} {q : Bool}
    (h : FM W0 w hf hsl hd hse ho hh gd gs go X Y Wn Hn N A c slope done seen out v xs q) {w' : World} {v' : Value} {ys : List SpR} (hf' : Fr w w' hh v.ownBlock) (pb : Bk w' hh 171 #[v']) (own : OwnS w' W0.heap.size v' ys) (fin : AllFin ys) : FM W0 w' hf hsl hd hse ho hh gd gs go X Y Wn Hn N A c slope done seen out v' ys false := by
  have g1 : ∀ {g : Nat} {t : TypeId} {cs : Array Value}, Bk w g t cs → 171 ≠ t → 173 ≠ t → Bk w' g t cs := fun hb n1 n2 => hf'.bk hb (Bk.ne h.pb hb n1).symm (own_ne h.own hb n2)
  exact ⟨g1 h.fb (by decide) (by decide), g1 h.sl (by decide) (by decide), g1 h.db (by decide) (by decide), g1 h.dg (by decide) (by decide), g1 h.eb (by decide) (by decide), g1 h.eg (by decide) (by decide), g1 h.ob (by decide) (by decide), g1 h.og (by decide) (by decide), pb, own, fin, (fun e => by cases e),
    hf'.to_ext h.ext h.b4 (fun k hk => (World.ownsRow.lt h.own k hk).1), h.n1, h.n2, h.b1, h.b2, h.b3, h.b4⟩
/-- a cell is done -/
theorem FM.mark {W0 w : World} {hf hsl hd hse ho hh gd gs go : Nat} {X Y : Int} {Wn Hn N : Nat} {A : Option Addr} {c slope : Nat} {done seen : Nat → Bool} {out : Nat → Nat} {v : Value} {xs : List SpR} {q : Bool}
    (h : FM W0 w hf hsl hd hse ho hh gd gs go X Y Wn Hn N A c slope done seen out v xs q) (k : Nat) : FM W0 (w.setCell ⟨gd, k, none⟩ (.bool true)) hf hsl hd hse ho hh gd gs go X Y Wn Hn N A c slope (updF done k true) seen out v xs q := by
  have e1 := Bk.set h.dg k (.bool true)
  rw [bools_set] at e1
  have f1 : ∀ {g : Nat} {t : TypeId} {cs : Array Value}, Bk w g t cs → g ≠ gd → Bk (w.setCell ⟨gd, k, none⟩ (.bool true)) g t cs := fun hb hn => hb.far hn _
  exact ⟨f1 h.fb (Bk.ne h.fb h.dg (by decide)), f1 h.sl (Bk.ne h.sl h.dg (by decide)), f1 h.db (Bk.ne h.db h.dg (by decide)), e1, f1 h.eb (Bk.ne h.eb h.dg (by decide)), f1 h.eg h.n1.symm, f1 h.ob (Bk.ne h.ob h.dg (by decide)), f1 h.og (Bk.ne h.og h.dg (by decide)),
    f1 h.pb (Bk.ne h.pb h.dg (by decide)), h.own.set h.dg (by decide) _, h.fin, h.hq, h.ext.setCell h.b1 _, h.n1, h.n2, h.b1, h.b2, h.b3, h.b4⟩
theorem FM.app {W0 w : World} {hf hsl hd hse ho hh gd gs go : Nat} {X Y : Int} {Wn Hn N : Nat} {A : Option Addr} {c slope : Nat} {done seen : Nat → Bool} {out : Nat → Nat} {v : Value} {xs : List SpR} {q : Bool}
    (h : FM W0 w hf hsl hd hse ho hh gd gs go X Y Wn Hn N A c slope done seen out v xs q) {w' : World} {o : Obj} {v' : Value} {a : SpR} (hg : (w.alloc o).grownBy w' v.ownBlock) (hown : w'.ownsRow W0.heap.size 173 2 v' (xs.length + 1) (scells xs ++ [.float .f32 a.v, .int .i64 a.k])) (ha : Fin a.v) :
    FM W0 (w'.setCell ⟨hh, 0, none⟩ v') hf hsl hd hse ho hh gd gs go X Y Wn Hn N A c slope done seen out v' (xs ++ [a]) false := by
  have hB1 := Bk.grown (h.pb.alloc o) hg (own_ne h.own h.pb (by decide))
  refine h.heap2 (Fr.set (Fr.grown (Fr.ext (Fr.refl w _ _) ((Ext.refl w).alloc o)) hg) 0 v') (hB1.set 0 v') ?_ (fun b hb => ?_)
  · have hne : some hh ≠ v'.ownBlock := own_ne hown hB1 (by decide)
    unfold OwnS
    rw [List.length_append, scells_append]
    exact ownsRow_setCell_other hown (fun e => hne e.symm) _
  · rcases List.mem_append.1 hb with h1 | h1
    · exact h.fin b h1
    · simp at h1
      subst h1
      exact ha

/-- what filled returns -/
def FillPost (Wn Hn N slope : Nat) (l : List Nat) (w : World) (e : Ending) (w' : World) : Prop := ∃ g out, e = .returned (.slice (some ⟨g, 0, none⟩) N N) ∧ w.heap.size ≤ g ∧ Bk w' g 27 (flo N out) ∧ LeastG Wn Hn (fun k => l.getD k 0) slope (fun k => valI (out k)) ∧ (∀ k, k < N → Bd 36 (out k)) ∧ Ext w w'
set_option maxRecDepth 100000 in
set_option maxHeartbeats 6400000 in
theorem filled_any (X Y : Int) (Wn Hn N : Nat) (A : Option Addr) (c slope : Nat) (l : List Nat) (w : World) (hr : Reg X Y Wn Hn) (hN : N = Wn * Hn) (hl : l.length = N) (hV : Rd w A (flt l)) (hh : ∀ x ∈ l, Bd 20 x) (hs : Bd 10 slope) (h0 : 0 ≤ valI slope) :
    Calls Try.prog 83 #[.agg #[.int .i64 X, .int .i64 Y, .int .i64 (Wn : Int), .int .i64 (Hn : Int), .slice A N c], .float .f32 slope] w fun e w' => FillPost Wn Hn N slope l w e w' := by
  have hN6 : N ≤ 65536 := by rw [hN]; exact hr.n
  have hN1 : 1 ≤ N := by rw [hN]; exact Nat.mul_pos hr.w1 hr.h1
  have mb := mk_bool N (by omega)
  have mf := mk_flo N (by omega)
  have hlk : ∀ j, j < N → Bd 20 (l.getD j 0) := fun j hj => by
    have hjl : j < l.length := by omega
    have e : l.getD j 0 = l[j] := by simp [List.getD_eq_getElem?_getD, hjl]
    rw [e]
    exact hh _ (List.getElem_mem hjl)
  have Hr := hidA hr
  have HN := hidA hN
  have Hl := hidA hl
  have Hh := hidA hlk
  have Hs := hidA hs
  have H0 := hidA h0
  obtain ⟨i0, hi0, hz0, hz1, hz2⟩ := info_parts infoSp
  clear hr hN hl hh hlk hs h0
  obtain ⟨w1, hw1⟩ : ∃ w1, w1 = ((((((((w.alloc (.cells #[.int .i64 X, .int .i64 Y, .int .i64 (Wn : Int), .int .i64 (Hn : Int), .slice A N c] 26)).alloc (.cells #[.float .f32 slope] 27)).alloc (.cells (flo N fun _ => 0) 27)).alloc (.cells #[.slice (some ⟨w.heap.size + 1 + 1, 0, none⟩) N N] 24)).alloc (.cells (bools N fun _ => false) 4)).alloc (.cells #[.slice (some ⟨w.heap.size + 1 + 1 + 1 + 1, 0, none⟩) N N] 99)).alloc (.cells (bools N fun _ => false) 4)).alloc (.cells #[.slice (some ⟨w.heap.size + 1 + 1 + 1 + 1 + 1 + 1, 0, none⟩) N N] 99)).alloc (.cells #[.slice none 0 0] 171) := ⟨_, rfl⟩
  have hF1 : FM w w1 w.heap.size (w.heap.size + 1) (w.heap.size + 1 + 1 + 1 + 1 + 1) (w.heap.size + 1 + 1 + 1 + 1 + 1 + 1 + 1) (w.heap.size + 1 + 1 + 1) (w.heap.size + 1 + 1 + 1 + 1 + 1 + 1 + 1 + 1) (w.heap.size + 1 + 1 + 1 + 1) (w.heap.size + 1 + 1 + 1 + 1 + 1 + 1) (w.heap.size + 1 + 1) X Y Wn Hn N A c slope (fun _ => false) (fun _ => false) (fun _ => 0) (.slice none 0 0) [] false := by
    rw [hw1]
    refine ⟨?_, ?_, ?_, ?_, ?_, ?_, ?_, ?_, ?_, OwnS.nil _ _, (fun a ha => by cases ha), (fun e => by cases e), ?_, by omega, by omega, by omega, by omega, by omega, by omega⟩
    · exact (((((((((Bk.new' rfl).alloc _).alloc _).alloc _).alloc _).alloc _).alloc _).alloc _).alloc _)
    · refine ((((((((Bk.new' ?_).alloc _).alloc _).alloc _).alloc _).alloc _).alloc _).alloc _)
      simp
    · refine ((((Bk.new' ?_).alloc _).alloc _).alloc _)
      simp
    · refine (((((Bk.new' ?_).alloc _).alloc _).alloc _).alloc _)
      simp
    · refine ((Bk.new' ?_).alloc _)
      simp
    · refine (((Bk.new' ?_).alloc _).alloc _)
      simp
    · refine ((((((Bk.new' ?_).alloc _).alloc _).alloc _).alloc _).alloc _)
      simp
    · refine (((((((Bk.new' ?_).alloc _).alloc _).alloc _).alloc _).alloc _).alloc _)
      simp
    · refine (Bk.new' ?_)
      simp
    · exact ((((((((((Ext.refl w).alloc _).alloc _).alloc _).alloc _).alloc _).alloc _).alloc _).alloc _).alloc _)
  go_enter Try.func83, Try.ntmps83
  go_upto_region 5 with fail
  rw [← hw1]
  clear hw1 mb mf
  generalize w.heap.size + 1 + 1 + 1 + 1 + 1 + 1 + 1 + 1 = hh at *
  generalize w.heap.size + 1 + 1 + 1 + 1 + 1 + 1 + 1 = hse at *
  generalize w.heap.size + 1 + 1 + 1 + 1 + 1 + 1 = gs at *
  generalize w.heap.size + 1 + 1 + 1 + 1 + 1 = hd at *
  generalize w.heap.size + 1 + 1 + 1 + 1 = gd at *
  generalize w.heap.size + 1 + 1 + 1 = ho at *
  generalize w.heap.size + 1 + 1 = go at *
  generalize w.heap.size + 1 = hsl at *
  generalize hfe : w.heap.size = hf at hF1 ⊢
  have Hfe := hidA hfe
  clear hfe
  have c4 := hF1.fb.cell 4
  go_wp2
  clear c4
  go_loopw [27] (fun s27 wr => ∃ (k : Nat) (seen : Nat → Bool) (out : Nat → Nat) (v : Value) (xs : List SpR), k ≤ N ∧ s27 = .int .i64 k ∧ FM w wr hf hsl hd hse ho hh gd gs go X Y Wn Hn N A c slope (fun _ => false) seen out v xs false ∧ BI Wn Hn k l seen out xs) (fun s27 _ => N - (intOf s27).toNat)
  case atStart => exact ⟨0, _, _, _, _, Nat.zero_le _, rfl, hF1, BI.zero Wn Hn l⟩
  case round =>
    clear hF1
    obtain ⟨k, seen, out, v, xs, hk, rfl, hF, hB⟩ := hrel
    have HB := hidA hB
    clear hB
    by_cases hkN : k < N
    · have hkl : k < l.length := by have := Hl.out; omega
      obtain ⟨ad, rfl, hbk, hcv⟩ := (hV.ext hF.ext).at (k := k) (by rw [flt_length]; exact hkl)
      have ck := hcv k _ (flt_get hkl)
      have el : l.getD k 0 = l[k] := by simp [List.getD_eq_getElem?_getD, hkl]
      obtain ⟨x0, hx0⟩ : ∃ x0, x0 = l.getD k 0 := ⟨_, rfl⟩
      rw [← el, ← hx0] at ck
      have Hx0 := hidA hx0
      clear hcv el hx0
      have c0 := hF.fb.cell 0
      have c1 := hF.fb.cell 1
      have c2 := hF.fb.cell 2
      have c3 := hF.fb.cell 3
      have HBo := fun (w : World) => hidA (border_any X Y Wn Hn k w Hr.out (by rw [← HN.out]; exact hkN))
      unfold rgv at HBo
      cases hb : brd Wn Hn k
      · have Hb := hidA hb
        rw [hb] at HBo
        clear hb
        go_wp2_with (go_at_call 131; refine ((HBo _).out).mono ?_; rintro e w2 ⟨rfl, hx2⟩)
        go_roundw
        case rel => exact ⟨k + 1, seen, out, v, xs, by omega, by go_num, hF.step hx2, HB.out.pass Hb.out⟩
        case measure => simp [intOf]; omega
      · have Hb := hidA hb
        rw [hb] at HBo
        clear hb
        go_upto_region 9 with (go_at_call 131; refine ((HBo _).out).mono ?_; rintro e w2 ⟨rfl, hx2⟩)
        have hF2 := hF.step hx2
        have hxl := HB.out.s4
        clear c0 c1 c2 c3 ck hF
        have p0 := hF2.pb.cell 0
        have p1 := hF2.pb.frozen 0
        have hpm := (hF2.pb.alloc (.cells #[.float .f32 x0, .int .i64 (k : Int)] 173))
        have hnews : Hid (∀ j u, ([Value.float .f32 x0, .int .i64 (k : Int)] : List Value)[j]? = some u → (w2.alloc (.cells #[.float .f32 x0, .int .i64 (k : Int)] 173)).cell? ((⟨w2.heap.size, 0, none⟩ : Addr).add j) = some u) := World.news_of_block (cs := #[.float .f32 x0, .int .i64 (k : Int)]) (t := 173) (fr := (0, 0)) (heap_alloc_new w2 _)
        have hone : Hid (∀ u ∈ ([Value.float .f32 x0, .int .i64 (k : Int)] : List Value), u.oneCell' = true) := by intro u hu; simp at hu; rcases hu with rfl | rfl <;> rfl
        have hown2 := hidA (hF2.own.ext ((Ext.refl w2).alloc (.cells #[.float .f32 x0, .int .i64 (k : Int)] 173)))
        have hs2 : w.heap.size ≤ w2.heap.size := hF2.ext.size
        have HF2 := hidA hF2
        have hne2 := hidA (own_ne hF2.own hF2.pb (by decide))
        have Hpm := hidA hpm
        clear hF2 hpm
        go_upto_region 10 with (at_builtin; (refine wpList_append_lies _ (by rfl) (.tmp 36) (.tmp 40) 171 (by rfl) w.heap.size 173 i0 (.agg #[.float .f32 0, .int .i64 0]) 2 16 Try.underlying171 hi0 hz0 hz1 hz2 (by rfl) (by decide) v xs.length (scells xs) (by rfl) hown2.out ⟨w2.heap.size, 0, none⟩ 1 1 [.float .f32 x0, .int .i64 (k : Int)] (by rfl) (by rfl) hnews.out hone.out (by omega) (by unfold maxLen; omega) (by omega) (by rw [World.size_alloc]; omega) (w2.heap.size + 1) (by simp) ?_; intro g cap w3 hown3 hgrow3 hat hlt; have hB3 := Bk.grown Hpm.out hgrow3 hne2.out; have d0 := hB3.cell 0; have d1 := hB3.frozen 0; clear hB3))
        have hF4 := HF2.out.app (a := ⟨x0, (k : Int)⟩) hgrow3 hown3 (bd_Fin (by rw [Hx0.out]; exact Hh.out k hkN) (by omega : 20 ≤ 127))
        clear d0 d1 hgrow3 hown3 hat hlt hnews hone hown2 HF2 hne2 Hpm p0 p1
        generalize w3.setCell ⟨hh, 0, none⟩ (.slice (some ⟨g, 0, none⟩) (xs.length + 1) cap) = w4 at *
        have HF := hidA hF4
        have HP4 := hidA (hF4.put k x0)
        have hgo : go ≠ gs := Bk.ne hF4.og hF4.eg (by decide)
        have e0 := hF4.eb.cell 0
        have e1 : w4.cell? ⟨gs, k, none⟩ = some (.bool (seen k)) := by rw [hF4.eg.cell]; exact bools_get _ hkN
        have o0 := hF4.ob.cell 0
        have o1 : w4.cell? ⟨go, k, none⟩ = some (.float .f32 (out k)) := by rw [hF4.og.cell]; exact flo_get _ hkN
        have f1 := hF4.eg.frozen k
        have f2 := hF4.og.frozen k
        have j0 : (0 : Int) ≤ k := by omega
        have j1 : (k : Int) < N := by omega
        have q1 : (w4.setCell ⟨go, k, none⟩ (.float .f32 x0)).cell? ⟨gs, k, none⟩ = some (.bool (seen k)) := by rw [(HF.out.eg.far (p := ⟨go, k, none⟩) (Ne.symm hgo) (.float .f32 x0)).cell]; exact bools_get _ hkN
        have q2 : (w4.setCell ⟨gs, k, none⟩ (.bool true)).cell? ⟨go, k, none⟩ = some (.float .f32 (out k)) := by rw [(HF.out.og.far (p := ⟨gs, k, none⟩) hgo (.bool true)).cell]; exact flo_get _ hkN
        have q3 : (w4.setCell ⟨go, k, none⟩ (.float .f32 x0)).cell? ⟨hse, 0, none⟩ = some (.slice (some ⟨gs, 0, none⟩) N N) := (HF.out.eb.far (p := ⟨go, k, none⟩) (Bk.ne HF.out.eb HF.out.og (by decide)) (.float .f32 x0)).cell 0
        have q4 : (w4.setCell ⟨gs, k, none⟩ (.bool true)).cell? ⟨ho, 0, none⟩ = some (.slice (some ⟨go, 0, none⟩) N N) := (HF.out.ob.far (p := ⟨gs, k, none⟩) (Bk.ne HF.out.ob HF.out.eg (by decide)) (.bool true)).cell 0
        clear hF4 hgo
        go_region
        clear e0 e1 o0 o1 f1 f2 q1 q2 q3 q4
        have hF5 := HP4.out.step (Ext.drew (Ext.refl _))
        have hB5 := HB.out.next Hb.out
        rw [← Hx0.out] at hB5
        have HB5 := hidA hB5
        clear hB5
        go_wp2
        go_roundw
        case rel => exact ⟨k + 1, _, _, _, _, by omega, by go_num, hF5, HB5.out⟩
        case measure => simp [intOf]; omega
    · have hkN' : N = k := by omega
      subst hkN'
      have hxl := HB.out.s4
      have hx1 : 0 < xs.length := List.length_pos_of_mem (HB.out.s1 0 (by omega) (by unfold brd; simp)).2.2
      have HI := hidA (Init_any hh w.heap.size v xs wr hF.pb hF.own (HB.out.fin Hh.out) hx1 (by omega))
      go_upto_region 12 with fail
      go_wp2_with (go_at_call 136; refine HI.out.mono ?_; rintro e w5 ⟨rfl, ys, hp, hps, hgr⟩)
      have hF5 := FM.heap hF (Fr.grown (Fr.refl wr hh _) hgr) hps
      have hD5 := DS.start (slope := slope) HB.out hp Hh.out
      have hyl := hp.length_eq
      have hlf := left_le N (fun _ => false)
      have HF5 := hidA hF5
      have HD5 := hidA hD5
      have Hg5 := hidA (show 9 * left N (fun _ => false) + ys.length ≤ 10 * N from by omega)
      clear HI hps hgr hp hF hF5 hD5 hyl hlf hx1 hxl HB
      go_loopg [52] (10 * N) (fun gk s52 wr => ∃ (done seen : Nat → Bool) (out : Nat → Nat) (v : Value) (xs : List SpR), FM w wr hf hsl hd hse ho hh gd gs go X Y Wn Hn N A c slope done seen out v xs true ∧ DS Wn Hn N slope l none done seen out xs ∧ 9 * left N done + xs.length ≤ gk ∧ 9 * left N done + xs.length ≤ 10 * N ∧ s52 = s52)
      case atStart => exact ⟨_, _, _, _, _, HF5.out, HD5.out, Hg5.out, Hg5.out, rfl⟩
      case round =>
        clear HF5 HD5 Hg5
        obtain ⟨done, seen, out, v, xs, hF, hD, hg, hg2, _⟩ := hrel
        obtain ⟨A', cap', hv⟩ := hF.own.shape
        subst hv
        have p0 := hF.pb.cell 0
        have HD := hidA hD
        have Hg := hidA hg
        have Hg2 := hidA hg2
        clear hD hg hg2
        by_cases hx0 : xs.length = 0
        · have hx0' := List.eq_nil_of_length_eq_zero hx0
          subst hx0'
          have o0 := hF.ob.cell 0
          have hend := HD.out.least Hr.out.w1 HN.out
          have Hend := hidA hend
          clear hend hx0
          go_wp2
          go_ret
          exact ⟨go, out, rfl, hF.b3, hF.og, Hend.out.1, Hend.out.2, hF.ext⟩
        · have hx1 : 0 < xs.length := by omega
          have hxb : xs.length ≤ 655360 := by have := Hg2.out; omega
          have HP := hidA (HPop_any hh w.heap.size _ xs wr hF.hps hx1 (by omega))
          have hx2 : (0 : Int) < xs.length := by omega
          have HF := hidA hF
          clear hF hx0
          go_upto_region 15 with (go_at_call 137; refine HP.out.mono ?_; rintro e w6 ⟨a, ys, v', rfl, hperm, hlow, hps, hob, hfr⟩)
          have hlt := HF.out
          have hF6 := FM.heap HF.out hfr hps
          have hne6 : v'.ownBlock ≠ some w6.heap.size := fun e => by have := (World.ownsRow.lt hps.own _ e).2; omega
          have hlen := hperm.length_eq
          obtain ⟨k0, hk0, hk0N, _, hsv⟩ := (HD.out.perm hperm).cell
          obtain ⟨sv, sk⟩ := a
          dsimp only at hk0 hsv
          subst hk0
          have hD6 := HD.out.perm hperm
          obtain ⟨w7, hw7⟩ : ∃ w7, w7 = w6.alloc (.cells #[.float .f32 sv, .int .i64 (k0 : Int)] 173) := ⟨_, rfl⟩
          have hF7 := hF6.step ((Ext.refl w6).alloc (.cells #[.float .f32 sv, .int .i64 (k0 : Int)] 173))
          have hS7 : Bk w7 w6.heap.size 173 #[.float .f32 sv, .int .i64 (k0 : Int)] := by rw [hw7]; exact Bk.new' rfl
          rw [← hw7] at hF7 ⊢
          generalize w6.heap.size = hs at *
          have hlen2 : xs.length = ys.length + 1 := by simpa using hlen.symm
          have HD6 := hidA hD6
          have HL := hidA hlen2
          have Hlow := hidA hlow
          have Hne := hidA hne6
          have HF7 := hidA hF7
          have HS7 := hidA hS7
          clear hw7 hF6 hfr hps hob hperm hlow hlen hlen2 hD6 hlt hx1 hx2 hxb p0 HP HF hne6
          have d0 := hF7.db.cell 0
          have d1 : w7.cell? ⟨gd, k0, none⟩ = some (.bool (done k0)) := by rw [hF7.dg.cell]; exact bools_get _ hk0N
          have s1 := hS7.cell 1
          have f0 := hF7.dg.frozen k0
          have j0 : (0 : Int) ≤ k0 := by omega
          have j1 : (k0 : Int) < N := by omega
          cases hdk : done k0
          · rw [hdk] at d1
            have Hdk := hidA hdk
            have hF8 := hidA (FM.mark hF7 k0)
            have hS8 := hidA (hS7.far (p := ⟨gd, k0, none⟩) (Bk.ne hS7 hF7.dg (by decide)) (.bool true))
            clear hdk hF7 hS7
            go_upto_region 17 with fail
            clear d0 d1 s1 f0
            generalize w7.setCell ⟨gd, k0, none⟩ (.bool true) = w8 at *
            have c0 := hF8.out.fb.cell 0
            have c1 := hF8.out.fb.cell 1
            have c2 := hF8.out.fb.cell 2
            have c3 := hF8.out.fb.cell 3
            have s1 := hS8.out.cell 1
            have HI := hidA (nbs_any 138 #[.pointer (some ⟨hf, 0, none⟩), .pointer (some ⟨hs, 0, none⟩), .pointer (some ⟨hsl, 0, none⟩), .pointer (some ⟨hd, 0, none⟩), .pointer (some ⟨hse, 0, none⟩), .pointer (some ⟨ho, 0, none⟩), .pointer (some ⟨hh, 0, none⟩)] enters_fill X Y Wn Hn k0 Hr.out (by rw [← HN.out]; exact hk0N)
              (fun d w' => ∃ (seen : Nat → Bool) (out : Nat → Nat) (v : Value) (zs : List SpR), FM w w' hf hsl hd hse ho hh gd gs go X Y Wn Hn N A c slope (updF done k0 true) seen out v zs true ∧ Bk w' hs 173 #[.float .f32 sv, .int .i64 (k0 : Int)] ∧ v.ownBlock ≠ some hs ∧ DS Wn Hn N slope l (some (k0, d, valI sv)) (updF done k0 true) seen out zs ∧ zs.length ≤ ys.length + d)
              (fun d wa wb ⟨seen, out, v, zs, h1, h2, h3, h4, h5⟩ hx => ⟨seen, out, v, zs, h1.step hx, h2.ext hx, h3, h4, h5⟩)
              (fun d n wa hd8 hnb ⟨seen, out, v, zs, h1, h2, h3, h4, h5⟩ => by
                have hnN : n < N := by rw [HN.out]; exact nbr_lt hnb
                have hzl : zs.length ≤ 10000000 := by have := Hg2.out; have := HL.out; omega
                have hadd := (fadd_ok hsv (Hs.out.mono (by omega : 10 ≤ 36)) (by omega)).1
                refine (fill1_any w wa hf hsl hd hse ho hh gd gs go hs X Y Wn Hn N A c slope sv k0 (updF done k0 true) seen out v zs l n d h1 h2 h3 Hl.out hV hnN hadd (bd_Fin (relV_bd (Hh.out n hnN) hsv Hs.out H0.out) (by omega)) hzl).mono ?_
                rintro e wb ⟨rfl, hreg, v', qs, h6, h7, h8 | h8⟩
                · obtain ⟨hg, hp, hF9⟩ := h8
                  refine ⟨rfl, ⟨_, _, v', qs, hF9, h6, h7, h4.push hd8 hnb hnN (Hh.out n hnN) hsv Hs.out H0.out hg hp, ?_⟩, hreg⟩
                  rw [hp.length_eq]
                  simp
                  omega
                · obtain ⟨hg, rfl, rfl, hF9⟩ := h8
                  exact ⟨rfl, ⟨_, _, v', qs, hF9, h6, h7, h4.stay hnb hnN (Hh.out n hnN) hsv Hs.out H0.out hg, by omega⟩, hreg⟩)
              (fun d wa hd8 hnb ⟨seen, out, v, zs, h1, h2, h3, h4, h5⟩ => ⟨seen, out, v, zs, h1, h2, h3, h4.miss hnb, by omega⟩)
              w8 ⟨seen, out, v', ys, hF8.out, hS8.out, Hne.out, HD6.out.take rfl Hlow.out Hdk.out, by omega⟩)
            unfold rgv at HI
            go_wp2_with (go_at_call 128; refine HI.out.mono ?_; rintro e w9 ⟨rfl, seen', out', v9, zs, hF9, hS9, hn9, hD9, hl9⟩)
            have hlu := left_upd hk0N Hdk.out
            have HF9 := hidA hF9
            have HD9 := hidA hD9.all
            have Hcnt := hidA (show 9 * left N (updF done k0 true) + zs.length < gk from by have := Hg.out; have := HL.out; omega)
            have Hcnt2 := hidA (show 9 * left N (updF done k0 true) + zs.length ≤ 10 * N from by have := Hg2.out; have := HL.out; omega)
            clear hF9 hD9 hS9 hn9 hl9 hlu c0 c1 c2 c3 s1
            go_wp2_with fail
            go_roundg (9 * left N (updF done k0 true) + zs.length)
            case measure => exact Hcnt.out
            case rel => exact ⟨_, _, _, _, _, HF9.out, HD9.out, Nat.le_refl _, Hcnt2.out, trivial⟩
          · rw [hdk] at d1
            have Hdk := hidA hdk
            have Hcnt := hidA (show 9 * left N done + ys.length < gk from by have := Hg.out; have := HL.out; omega)
            have Hcnt2 := hidA (show 9 * left N done + ys.length ≤ 10 * N from by have := Hg2.out; have := HL.out; omega)
            clear hdk hF7 hS7
            go_wp2_with fail
            go_roundg (9 * left N done + ys.length)
            case measure => exact Hcnt.out
            case rel => exact ⟨_, _, _, _, _, HF7.out, HD6.out.skip rfl Hdk.out, Nat.le_refl _, Hcnt2.out, trivial⟩
end Go.Proofs.Ytinohfgokpbcdaa
namespace Go.Proofs.Ytinohfgokpbcdaa
open Go.RowKit

set_option maxHeartbeats 800000 in
theorem check_any (x y ww hh : Int) (A : Option Addr) (n c : Nat) (l : List Nat) (w : World) (hn : l.length = n) (hr : Rd w A (flt l)) (hb : n ≤ 140737488351232) :
    Calls Try.prog 80 #[.agg #[.int .i64 x, .int .i64 y, .int .i64 ww, .int .i64 hh, .slice A n c]] w fun e w' => e = .returned (.int .i64 (fieldE x y ww hh l)) ∧ Ext w w' := by
  have Hn := hidA hn
  clear hn
  by_cases he : regE x y ww hh = 0
  · obtain ⟨h1, h2, h3, h4, h5, _⟩ := regE_zero he
    obtain ⟨p1, p2⟩ := prod_bd (A := 512) (B := 512) (by omega : 0 ≤ ww) h2 (by omega : 0 ≤ hh) h4
    have He := hidA he
    clear he
    by_cases hl : (n : Int) = ww * hh
    · have hl' : ((n : Int) != ww * hh) = false := by simp [hl]
      have HF := hidA (fieldE_num (l := l) He.out (by rw [Hn.out]; exact hl))
      clear hl
      go_enter Try.func80, Try.ntmps80
      go_wp2_with fail
      refine (checkRegion_any _ _ _ _ _).mono ?_
      rw [He.out]
      rintro e w1 ⟨rfl, hb1⟩
      have hc1 := hb1.cell
      go_wp2_with fail
      refine (heights_any A n c l _ Hn.out ((hr.alloc _).ext hb1) hb).mono ?_
      rintro e w2 ⟨rfl, rfl⟩
      go_wp2
      go_ret
      exact ⟨ret_i HF.out.symm, ((Ext.refl _).alloc _).trans hb1⟩
    · have hl' : ((n : Int) != ww * hh) = true := by simp [hl]
      have HF := hidA (fieldE_len (l := l) He.out (by rw [Hn.out]; exact hl))
      clear hl
      go_enter Try.func80, Try.ntmps80
      go_wp2_with fail
      refine (checkRegion_any _ _ _ _ _).mono ?_
      rw [He.out]
      rintro e w1 ⟨rfl, hb1⟩
      have hc1 := hb1.cell
      go_wp2
      go_ret
      exact ⟨ret_i HF.out.symm, ((Ext.refl _).alloc _).trans hb1⟩
  · have HF := hidA (fieldE_reg (l := l) he)
    have he' : (regE x y ww hh != 0) = true := by simp [he]
    clear he
    go_enter Try.func80, Try.ntmps80
    go_wp2_with fail
    refine (checkRegion_any _ _ _ _ _).mono ?_
    rintro e w1 ⟨rfl, hb1⟩
    go_wp2
    go_ret
    exact ⟨ret_i HF.out.symm, ((Ext.refl _).alloc _).trans hb1⟩

end Go.Proofs.Ytinohfgokpbcdaa
namespace Go.Proofs.Ytinohfgokpbcdaa
open Ieee

/-- a finite double of at most 2^K -/
def BdD (K b : Nat) : Prop := b % 9223372036854775808 ≤ (K + 1023) * 4503599627370496

theorem word_rungD {neg : Bool} {r : Nat} (h : r < 9223372036854775808) : double.word neg r % 9223372036854775808 = r := by
  unfold Format.word
  rw [double_sign]
  split <;> omega

theorem read_bdD {K b : Nat} (h : BdD K b) (hK : K ≤ 1023) : ∃ (s : Bool) (m k : Nat), double.read b = .number s m ((k : Int) - 1074) ∧ m * 2 ^ k ≤ 2 ^ (K + 1074) ∧ s = (b / 9223372036854775808 % 2 == 1) := by
  unfold BdD at h
  unfold Format.read
  simp only [double_sign, double_binade, double_inf, double_least]
  have hr : b % 9223372036854775808 < 9218868437227405312 := by omega
  by_cases h1 : b % 9223372036854775808 < 4503599627370496
  · rw [if_pos h1]
    refine ⟨_, b % 9223372036854775808, 0, rfl, ?_, rfl⟩
    have : (2 : Nat) ^ 52 ≤ 2 ^ (K + 1074) := Nat.pow_le_pow_right (by omega) (by omega)
    simp only [Nat.pow_zero, Nat.mul_one]
    omega
  · rw [if_neg h1, if_pos hr]
    generalize b % 9223372036854775808 = r at *
    refine ⟨_, 4503599627370496 + r % 4503599627370496, r / 4503599627370496 - 1, by rw [Int.add_comm (-1074)]; rfl, ?_, rfl⟩
    have hq : r / 4503599627370496 ≤ K + 1023 := by omega
    by_cases h2 : r / 4503599627370496 = K + 1023
    · have ht : r % 4503599627370496 = 0 := by omega
      rw [ht, h2]
      have e : (2 : Nat) ^ (52 + (K + 1022)) = 4503599627370496 * 2 ^ (K + 1022) := Nat.pow_add 2 52 (K + 1022)
      rw [show K + 1023 - 1 = K + 1022 by omega, show K + 1074 = 52 + (K + 1022) by omega, e]
      exact Nat.le_refl _
    · have hm : 4503599627370496 + r % 4503599627370496 ≤ 2 ^ 53 := by omega
      calc (4503599627370496 + r % 4503599627370496) * 2 ^ (r / 4503599627370496 - 1) ≤ 2 ^ 53 * 2 ^ (r / 4503599627370496 - 1) := Nat.mul_le_mul_right _ hm
        _ = 2 ^ (53 + (r / 4503599627370496 - 1)) := (Nat.pow_add ..).symm
        _ ≤ 2 ^ (K + 1074) := Nat.pow_le_pow_right (by omega) (by omega)

theorem write_bdD {K : Nat} {neg : Bool} {m k N : Nat} (h : m * 2 ^ k < 2 ^ (K + N)) (hK : K ≤ 1023) : BdD K (double.nearest neg m ((k : Int) - N)) := by
  unfold BdD Format.nearest
  by_cases hm : m = 0
  · rw [if_pos hm, word_rungD (by omega)]
    omega
  · rw [if_neg hm]
    have hl := log_lt hm h
    simp only [double_binade, double_inf, double_least, double_frac]
    have hc : ∀ last : Int, last = max ((k : Int) - N + m.log2 - 52) (-1074) → Toward.even.cut neg (m <<< ((k : Int) - N - last).toNat) (last - ((k : Int) - N)).toNat ≤ 2 ^ 53 := by
      intro last hlast
      refine cut_le ?_
      rw [log_shift hm]
      omega
    have := hc _ rfl
    rw [word_rungD (by omega)]
    have e : ((max ((k : Int) - N + m.log2 - (52 : Nat)) (-1074) - -1074).toNat) ≤ K + 1021 := by omega
    have := Nat.mul_le_mul_right 4503599627370496 e
    simp only [show ((52 : Nat) : Int) = 52 from rfl] at *
    omega
theorem near_falseD (m : Nat) (p : Int) : double.nearest false m p < 9223372036854775808 := by
  have hw : ∀ r, double.word false r = r := fun r => by unfold Format.word; rw [if_neg (by decide)]
  unfold Format.nearest
  split
  · rw [hw]
    omega
  · rw [hw]
    simp only [double_inf]
    omega
theorem bdD_inf {K b : Nat} (h : BdD K b) (hK : K ≤ 1023) : (double.read b).isInfinity = false := by
  refine not_inf ?_
  rw [double_sign, double_inf]
  unfold BdD at h
  omega
theorem bd_inf {K b : Nat} (h : Bd K b) (hK : K ≤ 127) : (single.read b).isInfinity = false := by
  refine not_inf ?_
  rw [single_sign, single_inf]
  unfold Bd at h
  omega
theorem sign_false {b : Nat} {s : Bool} {m : Nat} {p : Int} (h : b < 2147483648) (e : single.read b = .number s m p) : s = false := by
  unfold Format.read at e
  simp only [single_sign] at e
  have hs : (b / 2147483648 % 2 == 1) = false := by rw [Nat.div_eq_of_lt h]; rfl
  rw [hs] at e
  split at e
  · injection e with e; exact e.symm
  · split at e
    · injection e with e; exact e.symm
    · split at e <;> cases e

/-- a single made a double -/
theorem conv_up {K b : Nat} (h : Bd K b) (hK : K ≤ 127) : ∃ d, floatToFloatBits .f32 b .f64 = some d ∧ BdD (K + 1) d ∧ (b < 2147483648 → d < 9223372036854775808) := by
  obtain ⟨s, m, k, e, hm⟩ := read_bd h hK
  have hb : BdD (K + 1) (double.nearest s m ((k : Int) - (149 : Nat))) := write_bdD (Nat.lt_of_le_of_lt hm (Nat.pow_lt_pow_right (by omega) (by omega))) (by omega)
  refine ⟨double.nearest s m ((k : Int) - (149 : Nat)), ?_, hb, ?_⟩
  · unfold floatToFloatBits
    rw [if_neg (by decide)]
    show (match single.read b with | .nan _ _ => none | .infinity s => _ | .number s m e => _) = _
    rw [e]
    show (if (double.read (double.nearest s m ((k : Int) - (149 : Nat)))).isInfinity = true then none else some (double.nearest s m ((k : Int) - (149 : Nat)))) = _
    rw [bdD_inf hb (by omega), if_neg (by decide)]
  · intro hs
    rw [sign_false hs e]
    exact near_falseD _ _
/-- a double made a single -/
theorem conv_down {J d : Nat} (h : BdD J d) (hJ : J ≤ 126) : ∃ r, floatToFloatBits .f64 d .f32 = some r ∧ Bd (J + 1) r ∧ (d < 9223372036854775808 → r < 2147483648) := by
  obtain ⟨s, m, k, e, hm, hs⟩ := read_bdD h (by omega)
  have hb : Bd (J + 1) (single.nearest s m ((k : Int) - (1074 : Nat))) := write_bd (Nat.lt_of_le_of_lt hm (Nat.pow_lt_pow_right (by omega) (by omega))) (by omega)
  refine ⟨single.nearest s m ((k : Int) - (1074 : Nat)), ?_, hb, ?_⟩
  · unfold floatToFloatBits
    rw [if_neg (by decide)]
    show (match double.read d with | .nan _ _ => none | .infinity s => _ | .number s m e => _) = _
    rw [e]
    show (if (single.read (single.nearest s m ((k : Int) - (1074 : Nat)))).isInfinity = true then none else some (single.nearest s m ((k : Int) - (1074 : Nat)))) = _
    rw [bd_inf hb (by omega), if_neg (by decide)]
  · intro hd
    rw [Nat.div_eq_of_lt hd] at hs
    have hs' : s = false := hs
    rw [hs']
    exact near_false _ _

theorem rootFrom_lt (n : Nat) : ∀ (todo root : Nat), Datum.rootFrom n todo root < root + 2 ^ todo
  | 0, root => by simp [Datum.rootFrom]
  | todo + 1, root => by
    unfold Datum.rootFrom
    have h1 := rootFrom_lt n todo root
    have h2 := rootFrom_lt n todo (root + 2 ^ todo)
    have h3 : 2 ^ (todo + 1) = 2 ^ todo + 2 ^ todo := by rw [Nat.pow_succ]; omega
    have h4 : root + 1 <<< todo = root + 2 ^ todo := by rw [Nat.shiftLeft_eq, Nat.one_mul]
    have h5 := Nat.two_pow_pos todo
    simp only [h4]
    split
    · omega
    · omega
theorem root_num {m : Nat} {i : Int} {K : Nat} (hm : m ≠ 0) (hl : (m.log2 : Int) + i ≤ K) : ∃ M k N : Nat, (Datum.number false m i).root 54 = some (.number false M ((k : Int) - N)) ∧ M * 2 ^ k < 2 ^ (K + 3 + N) := by
  obtain ⟨more, hmore⟩ : ∃ more, 2 * 54 - m.log2 + ((i - (2 * 54 - m.log2 : Nat)) % 2).toNat = more := ⟨_, rfl⟩
  obtain ⟨p, hp⟩ : ∃ p : Int, (i - more) / 2 - 1 = p := ⟨_, rfl⟩
  have hw := rootFrom_lt (m <<< more) ((m <<< more).log2 / 2 + 1) 0
  have hlog : (m <<< more).log2 = m.log2 + more := log_shift hm
  obtain ⟨M, hM⟩ : ∃ M, 2 * Datum.rootFrom (m <<< more) ((m <<< more).log2 / 2 + 1) 0 + (Datum.rootFrom (m <<< more) ((m <<< more).log2 / 2 + 1) 0 * Datum.rootFrom (m <<< more) ((m <<< more).log2 / 2 + 1) 0 != m <<< more).toNat = M := ⟨_, rfl⟩
  refine ⟨M, p.toNat, (-p).toNat, ?_, ?_⟩
  · unfold Datum.root
    simp only [if_neg hm, Bool.false_eq_true, if_false]
    rw [hmore, hM, hp, show ((p.toNat : Nat) : Int) - ((-p).toNat : Nat) = p by omega]
  · have hb : ∀ b : Bool, b.toNat ≤ 1 := fun b => by cases b <;> simp
    have hb' := hb (Datum.rootFrom (m <<< more) ((m <<< more).log2 / 2 + 1) 0 * Datum.rootFrom (m <<< more) ((m <<< more).log2 / 2 + 1) 0 != m <<< more)
    generalize (Datum.rootFrom (m <<< more) ((m <<< more).log2 / 2 + 1) 0 * Datum.rootFrom (m <<< more) ((m <<< more).log2 / 2 + 1) 0 != m <<< more).toNat = z at *
    generalize Datum.rootFrom (m <<< more) ((m <<< more).log2 / 2 + 1) 0 = R at *
    rw [hlog] at hw
    have h1 : M < 2 ^ ((m.log2 + more) / 2 + 2) := by
      have h3 : 2 ^ ((m.log2 + more) / 2 + 2) = 2 * 2 ^ ((m.log2 + more) / 2 + 1) := by rw [Nat.pow_succ, Nat.mul_comm]
      omega
    have h2 : M * 2 ^ p.toNat < 2 ^ ((m.log2 + more) / 2 + 2 + p.toNat) := by rw [Nat.pow_add]; exact (Nat.mul_lt_mul_right (Nat.two_pow_pos _)).2 h1
    exact Nat.lt_of_lt_of_le h2 (Nat.pow_le_pow_right (by omega) (by omega))

/-- float32(math.Sqrt(float64(b))) -/
def rootB (b : Nat) : Nat := ((floatToFloatBits .f32 b .f64).bind fun d => (double.sqrt d).bind fun r => floatToFloatBits .f64 r .f32).getD 0
theorem root_okD {K b : Nat} (hb : Bd K b) (hs : b < 2147483648) (hK : K ≤ 110) :
    ∃ d r, floatToFloatBits .f32 b .f64 = some d ∧ double.sqrt d = some r ∧ floatToFloatBits .f64 r .f32 = some (rootB b) ∧ Bd (K + 7) (rootB b) ∧ rootB b < 2147483648 ∧ BdD (K + 5) r := by
  obtain ⟨d, h1, h2, h3⟩ := conv_up hb (by omega)
  have hd := h3 hs
  obtain ⟨s, m, k, e, hm, hsg⟩ := read_bdD h2 (by omega)
  rw [Nat.div_eq_of_lt hd] at hsg
  obtain rfl : s = false := hsg
  have key : ∃ r, double.sqrt d = some r ∧ BdD (K + 5) r ∧ r < 9223372036854775808 := by
    unfold Format.sqrt
    rw [e, double_frac]
    by_cases h0 : m = 0
    · subst h0
      refine ⟨double.nearest false 0 ((k : Int) - (1074 : Nat)), ?_, write_bdD (by rw [Nat.zero_mul]; exact Nat.two_pow_pos _) (by omega), near_falseD _ _⟩
      rfl
    · have hl := log_lt h0 (show m * 2 ^ k < 2 ^ (K + 1 + 1074 + 1) from Nat.lt_of_le_of_lt hm (Nat.pow_lt_pow_right (by omega) (by omega)))
      obtain ⟨M, k', N, er, hM⟩ := root_num (m := m) (i := (k : Int) - 1074) (K := K + 1) h0 (by omega)
      refine ⟨double.nearest false M ((k' : Int) - N), ?_, write_bdD (Nat.lt_of_lt_of_le hM (Nat.pow_le_pow_right (by omega) (by omega))) (by omega), near_falseD _ _⟩
      show (Datum.root 54 _).map double.write = _
      rw [er]
      rfl
  obtain ⟨r, h4, h5, h6⟩ := key
  obtain ⟨q, h7, h8, h9⟩ := conv_down h5 (by omega)
  have e2 : rootB b = q := by
    unfold rootB
    rw [h1]
    show ((double.sqrt d).bind fun r => floatToFloatBits .f64 r .f32).getD 0 = q
    rw [h4]
    show (floatToFloatBits .f64 r .f32).getD 0 = q
    rw [h7]
    rfl
  rw [e2]
  exact ⟨d, r, h1, h4, h7, h8.mono (by omega), h9 h6, h5⟩

theorem root_ok {K b : Nat} (hb : Bd K b) (hs : b < 2147483648) (hK : K ≤ 110) :
    ∃ d r, floatToFloatBits .f32 b .f64 = some d ∧ double.sqrt d = some r ∧ floatToFloatBits .f64 r .f32 = some (rootB b) ∧ Bd (K + 7) (rootB b) ∧ rootB b < 2147483648 := by
  obtain ⟨d, r, h1, h2, h3, h4, h5, _⟩ := root_okD hb hs hK
  exact ⟨d, r, h1, h2, h3, h4, h5⟩

/-! ### signs -/
theorem square_nonneg {K x r : Nat} (hx : Bd K x) (hK : K ≤ 127) (h : single.mul x x = some r) : r < 2147483648 := by
  obtain ⟨s, m, k, e, _⟩ := read_bd hx hK
  unfold Format.mul at h
  rw [e] at h
  simp only [Datum.product, Option.map_some, Bool.xor_self, Option.some.injEq] at h
  rw [← h]
  exact near_false _ _
theorem sum_nonneg {K x y r : Nat} (hx : Bd K x) (hy : Bd K y) (hK : K ≤ 127) (sx : x < 2147483648) (sy : y < 2147483648) (h : single.add x y = some r) : r < 2147483648 := by
  obtain ⟨s, m, k, e, _⟩ := read_bd hx hK
  obtain ⟨t, n, j, e2, _⟩ := read_bd hy hK
  obtain rfl := sign_false sx e
  obtain rfl := sign_false sy e2
  unfold Format.add at h
  rw [e, e2] at h
  simp only [Datum.sum, Option.map_some, Option.some.injEq] at h
  rw [← h]
  have h1 := signed_false m ((k : Int) - 149 - min ((k : Int) - 149) ((j : Int) - 149)).toNat
  have h2 := signed_false n ((j : Int) - 149 - min ((k : Int) - 149) ((j : Int) - 149)).toNat
  generalize signed false m ((k : Int) - 149 - min ((k : Int) - 149) ((j : Int) - 149)).toNat = A at *
  generalize signed false n ((j : Int) - 149 - min ((k : Int) - 149) ((j : Int) - 149)).toNat = B at *
  have h3 : (if A + B = 0 then false && false else decide (A + B < 0)) = false := by
    split
    · rfl
    · exact decide_eq_false (by omega)
  show single.nearest (if A + B = 0 then false && false else decide (A + B < 0)) _ _ < _
  rw [h3]
  exact near_false _ _

/-! ### thresholds that are powers of two -/
theorem read_pow {j : Nat} (h1 : 1 ≤ j) (h2 : j ≤ 254) : single.read (j * 8388608) = .number false 8388608 (((j - 1 : Nat) : Int) - 149) := by
  unfold Format.read
  simp only [single_sign, single_binade, single_inf, single_least]
  have e : j * 8388608 % 2147483648 = j * 8388608 := Nat.mod_eq_of_lt (by omega)
  have e2 : (j * 8388608 / 2147483648 % 2 == 1) = false := by rw [Nat.div_eq_of_lt (by omega)]; rfl
  rw [e, e2, if_neg (by omega), if_pos (by omega)]
  congr 1 <;> omega
theorem read_under {j a : Nat} (h1 : 1 ≤ j) (h2 : j ≤ 254) (h : a % 2147483648 < j * 8388608) : ∃ (s : Bool) (m k : Nat), single.read a = .number s m ((k : Int) - 149) ∧ m * 2 ^ k < 2 ^ (22 + j) := by
  unfold Format.read
  simp only [single_sign, single_binade, single_inf, single_least]
  generalize a % 2147483648 = r at *
  by_cases h3 : r < 8388608
  · rw [if_pos h3]
    refine ⟨_, r, 0, rfl, ?_⟩
    have : (2 : Nat) ^ 23 ≤ 2 ^ (22 + j) := Nat.pow_le_pow_right (by omega) (by omega)
    simp only [Nat.pow_zero, Nat.mul_one]
    omega
  · rw [if_neg h3, if_pos (by omega)]
    refine ⟨_, 8388608 + r % 8388608, r / 8388608 - 1, by rw [Int.add_comm (-149)]; rfl, ?_⟩
    have hm : 8388608 + r % 8388608 < 2 ^ 24 := by omega
    have h4 : (8388608 + r % 8388608) * 2 ^ (r / 8388608 - 1) < 2 ^ (24 + (r / 8388608 - 1)) := by rw [Nat.pow_add]; exact (Nat.mul_lt_mul_right (Nat.two_pow_pos _)).2 hm
    exact Nat.lt_of_lt_of_le h4 (Nat.pow_le_pow_right (by omega) (by omega))
theorem ge_of_not_lt {a j : Nat} (h1 : 1 ≤ j) (h2 : j ≤ 254) (h : lt a (j * 8388608) = false) : j * 8388608 ≤ a % 2147483648 := by
  rcases Nat.lt_or_ge (a % 2147483648) (j * 8388608) with h3 | h3
  · obtain ⟨s, m, k, e, hm⟩ := read_under h1 h2 h3
    have ho := ord_val e (read_pow h1 h2)
    have hc : compare (signed s m k) (signed false 8388608 (j - 1)) = .lt := by
      rw [Int.compare_eq_lt]
      have e3 : signed false 8388608 (j - 1) = ((2 ^ (22 + j) : Nat) : Int) := by
        unfold signed
        rw [if_neg (by decide), Nat.shiftLeft_eq]
        congr 1
        have : (2 : Nat) ^ (23 + (j - 1)) = 8388608 * 2 ^ (j - 1) := Nat.pow_add 2 23 (j - 1)
        rw [← this]
        congr 1
        omega
      have e4 := signed_abs s m k
      rw [e3]
      omega
    rw [hc] at ho
    have := lt_ord.2 ho
    rw [this] at h
    cases h
  · exact h3

/-! ### quotients by what is not too small -/
def GeJ (j b : Nat) : Prop := j * 8388608 ≤ b % 2147483648 ∧ b % 2147483648 < 2139095040
theorem read_geJ {j b : Nat} (hj : 1 ≤ j) (h : GeJ j b) : ∃ (s : Bool) (m k : Nat), single.read b = .number s m ((k : Int) - 149) ∧ 2 ^ (22 + j) ≤ m * 2 ^ k ∧ m ≠ 0 := by
  obtain ⟨h, hi⟩ := h
  unfold Format.read
  simp only [single_sign, single_binade, single_inf, single_least]
  rw [if_neg (by omega), if_pos hi]
  generalize b % 2147483648 = r at *
  refine ⟨_, 8388608 + r % 8388608, r / 8388608 - 1, by rw [Int.add_comm (-149)]; rfl, ?_, by omega⟩
  have e : (2 : Nat) ^ (23 + (r / 8388608 - 1)) = 8388608 * 2 ^ (r / 8388608 - 1) := Nat.pow_add 2 23 _
  have h1 : (2 : Nat) ^ (22 + j) ≤ 2 ^ (23 + (r / 8388608 - 1)) := Nat.pow_le_pow_right (by omega) (by omega)
  have h2 : 8388608 * 2 ^ (r / 8388608 - 1) ≤ (8388608 + r % 8388608) * 2 ^ (r / 8388608 - 1) := Nat.mul_le_mul_right _ (by omega)
  omega
theorem fdiv_geJ {K x y j : Nat} (hx : Bd K x) (hj : 1 ≤ j) (hj2 : j ≤ 127) (hy : GeJ j y) (hK : K + (127 - j) ≤ 120) : ∃ r, single.div x y = some r ∧ Bd (K + (127 - j) + 2) r := by
  obtain ⟨s, m, k, e1, h1⟩ := read_bd hx (by omega)
  obtain ⟨t, n, i, e2, h2, hn⟩ := read_geJ hj hy
  obtain ⟨g, hg⟩ : ∃ g, 127 - j = g := ⟨_, rfl⟩
  rw [hg] at hK ⊢
  unfold Format.div
  rw [e1, e2]
  simp only [Datum.quotient, if_neg hn]
  refine ⟨_, rfl, ?_⟩
  simp only [Format.write, single_frac]
  generalize hmore : 23 + 2 + n.log2 - m.log2 = more
  rw [show ((k : Int) - 149 - ((i : Int) - 149) - more - 1) = (k : Int) - ((i + more + 1 : Nat) : Int) by omega]
  refine write_bd ?_ (by omega)
  rw [Nat.shiftLeft_eq]
  by_cases hm : m = 0
  · subst hm
    simp only [Nat.zero_mul, Nat.zero_div, Nat.zero_mod, Nat.mul_zero, Nat.zero_add]
    show 0 * 2 ^ k < _
    rw [Nat.zero_mul]
    exact Nat.two_pow_pos _
  have hb : ∀ b : Bool, b.toNat ≤ 1 := fun b => by cases b <;> simp
  have hb' := hb (m * 2 ^ more % n != 0)
  refine Nat.lt_of_mul_lt_mul_left (a := n) ?_
  have hq : n * (m * 2 ^ more / n) ≤ m * 2 ^ more := Nat.mul_div_le _ _
  have h3 : n * ((2 * (m * 2 ^ more / n) + (m * 2 ^ more % n != 0).toNat) * 2 ^ k) ≤ (2 * (m * 2 ^ more) + n) * 2 ^ k := by
    rw [← Nat.mul_assoc]
    refine Nat.mul_le_mul_right _ ?_
    rw [Nat.mul_add]
    have h5 : n * (m * 2 ^ more % n != 0).toNat ≤ n * 1 := Nat.mul_le_mul_left _ hb'
    have h6 : n * (2 * (m * 2 ^ more / n)) = 2 * (n * (m * 2 ^ more / n)) := Nat.mul_left_comm ..
    omega
  refine Nat.lt_of_le_of_lt h3 ?_
  rw [Nat.add_mul]
  have a1 : 2 * (m * 2 ^ more) * 2 ^ k = (m * 2 ^ k) * 2 ^ (more + 1) := by rw [Nat.pow_succ]; simp only [Nat.mul_assoc, Nat.mul_left_comm, Nat.mul_comm]
  have a2 : (m * 2 ^ k) * 2 ^ (more + 1) ≤ 2 ^ (K + 149) * 2 ^ (more + 1) := Nat.mul_le_mul_right _ h1
  have a3 : 2 ^ (K + 149) * 2 ^ (more + 1) = 2 ^ (22 + j) * 2 ^ (K + g + more + 1) := by rw [← Nat.pow_add, ← Nat.pow_add]; congr 1; omega
  have a4 : 2 ^ (22 + j) * 2 ^ (K + g + more + 1) ≤ n * 2 ^ i * 2 ^ (K + g + more + 1) := Nat.mul_le_mul_right _ h2
  have a5 : n * 2 ^ i * 2 ^ (K + g + more + 1) = n * 2 ^ (K + g + i + more + 1) := by rw [Nat.mul_assoc, ← Nat.pow_add]; congr 2; omega
  have b1 : k ≤ K + g + i + more + 1 := by
    have hl := log_lt hm (show m * 2 ^ k < 2 ^ (K + 150) from Nat.lt_of_le_of_lt h1 (Nat.pow_lt_pow_right (by omega) (by omega)))
    have hg := log_ge h2
    omega
  have b2 : n * 2 ^ k ≤ n * 2 ^ (K + g + i + more + 1) := Nat.mul_le_mul_left _ (Nat.pow_le_pow_right (by omega) b1)
  have c1 : n * 2 ^ (K + g + 2 + (i + more + 1)) = 4 * (n * 2 ^ (K + g + i + more + 1)) := by
    rw [show K + g + 2 + (i + more + 1) = 2 + (K + g + i + more + 1) by omega, Nat.pow_add, Nat.mul_left_comm]
  have c2 : 0 < n * 2 ^ (K + g + i + more + 1) := Nat.mul_pos (by omega) (Nat.two_pow_pos _)
  omega
end Go.Proofs.Ytinohfgokpbcdaa
namespace Go.Proofs.Ytinohfgokpbcdaa
open Ieee
theorem ord_le {K b c n j : Nat} (h : Bd K b) (hK : K ≤ 127) (hc : single.read c = .number false n ((j : Int) - 149)) (hn : 2 ^ (K + 149) ≤ n * 2 ^ j) : ord b c = some .lt ∨ ord b c = some .eq := by
  obtain ⟨s, m, k, e, hm⟩ := read_bd h hK
  rw [ord_val e hc]
  have h1 := signed_abs s m k
  have h2 := signed_abs false n j
  have h3 := signed_false n j
  rcases Int.lt_trichotomy (signed s m k) (signed false n j) with h | h | h
  · left; rw [Int.compare_eq_lt.2 h]
  · right; rw [Int.compare_eq_eq.2 h]
  · exfalso; omega
theorem ord_ge {K b c n j : Nat} (h : Bd K b) (hK : K ≤ 127) (hc : single.read c = .number true n ((j : Int) - 149)) (hn : 2 ^ (K + 149) ≤ n * 2 ^ j) : ord b c = some .gt ∨ ord b c = some .eq := by
  obtain ⟨s, m, k, e, hm⟩ := read_bd h hK
  rw [ord_val e hc]
  have h1 := signed_abs s m k
  have h2 := signed_abs true n j
  have h3 : signed true n j ≤ 0 := by
    unfold signed
    rw [if_pos rfl]
    omega
  rcases Int.lt_trichotomy (signed s m k) (signed true n j) with h | h | h
  · exfalso; omega
  · right; rw [Int.compare_eq_eq.2 h]
  · left; rw [Int.compare_eq_gt.2 h]
theorem bd_hgt {K b : Nat} (h : Bd K b) (hK : K ≤ 20) : hgtB b = true := by
  have h' := h.mono hK
  unfold hgtB
  rcases ord_le h' (by omega) (show single.read 1233125376 = .number false 8388608 (((146 : Nat) : Int) - 149) by decide +kernel) (by decide) with a | a <;>
  rcases ord_ge h' (by omega) (show single.read 3380609024 = .number true 8388608 (((146 : Nat) : Int) - 149) by decide +kernel) (by decide) with d | d <;> rw [a, d] <;> rfl
theorem bd_finB {K b : Nat} (h : Bd K b) (hK : K ≤ 100) : finB b = true := by
  have h' := h.mono hK
  unfold finB
  rcases ord_le h' (by omega) (show single.read 2139095039 = .number false 16777215 (((253 : Nat) : Int) - 149) by decide +kernel) (by decide) with a | a <;>
  rcases ord_ge h' (by omega) (show single.read 4286578687 = .number true 16777215 (((253 : Nat) : Int) - 149) by decide +kernel) (by decide) with d | d <;> rw [a, d] <;> rfl
end Go.Proofs.Ytinohfgokpbcdaa
namespace Go.Proofs.Ytinohfgokpbcdaa
open Go.RowKit
attribute [local go_sem ↓] Go.wp_at_zero Go.wp_at_succ

set_option maxHeartbeats 1600000 in
theorem result_any (x y ww hh : Int) (A : Option Addr) (n c : Nat) (l : List Nat) (w : World) (hn : l.length = n) (hr : Rd w A (flt l)) (hb : n ≤ 140737488351232) :
    Calls Try.prog 82 #[.agg #[.int .i64 x, .int .i64 y, .int .i64 ww, .int .i64 hh, .slice A n c]] w fun e w' =>
      (l.all hgtB = true ∧ e = .returned (.tuple #[.agg #[.int .i64 x, .int .i64 y, .int .i64 ww, .int .i64 hh, .slice A n c], .int .i64 0]) ∨ l.all hgtB = false ∧ e = .returned (.tuple #[.agg #[.int .i64 0, .int .i64 0, .int .i64 0, .int .i64 0, .slice none 0 0], .int .i64 3])) ∧ Ext w w' := by
  have Hn := hidA hn
  clear hn
  go_enter Try.func82, Try.ntmps82
  go_wp2
  go_loop [9] (fun i => ∃ k : Nat, k ≤ n ∧ i = .int .i64 k ∧ ∀ b ∈ l.take k, hgtB b = true) (fun i => n - (intOf i).toNat)
  case atStart => exact ⟨0, Nat.zero_le _, rfl, by simp⟩
  case round =>
    obtain ⟨k, hk, rfl, hpre⟩ := hrel
    by_cases hlt : k < n
    · have hkl : k < l.length := by have := Hn.out; omega
      obtain ⟨ad, rfl, hbk, hc⟩ := ((hr.alloc (.cells #[.int .i64 x, .int .i64 y, .int .i64 ww, .int .i64 hh, .slice A n c] 26)).alloc (.cells #[.int .i64 0, .int .i64 0, .int .i64 0, .int .i64 0, .slice none 0 0] 26)).at (k := k) (by simpa using hkl)
      have hck := hc k _ (flt_get hkl)
      have HS := hidA (show ∀ h : hgtB l[k] = true, ∀ b ∈ l.take (k + 1), hgtB b = true from fun h b hb => by
        rw [List.take_succ_eq_append_getElem hkl] at hb
        rcases List.mem_append.1 hb with hb | hb
        · exact hpre b hb
        · simp at hb; rw [hb]; exact h)
      have HB := hidA (show hgtB l[k] = false → l.all hgtB = false from fun h => by
        rw [List.all_eq_false]
        exact ⟨l[k], List.getElem_mem hkl, by rw [h]; decide⟩)
      clear hc hr hbk hpre
      cases hfin : hgtB l[k]
      · go_wp2_with (go_at_call 135; refine (height_any _ _).mono ?_; rintro e w' ⟨rfl, rfl⟩)
        refine bodyPost_ret (v := .tuple #[.agg #[.int .i64 0, .int .i64 0, .int .i64 0, .int .i64 0, .slice none 0 0], .int .i64 3]) (by simp [results, Try.results82, go_sem]) rfl ⟨.inr ⟨HB.out hfin, rfl⟩, ?_⟩
        repeat (first | exact Ext.refl _ | assumption | refine Ext.setCell ?_ (by simp) _ | refine Ext.alloc ?_ _ | refine Ext.drew ?_ | refine Ext.trans ?_ (by assumption))
      · have HS2 := hidA (HS.out hfin)
        go_wp2_with (go_at_call 135; refine (height_any _ _).mono ?_; rintro e w' ⟨rfl, rfl⟩)
        go_round
        case rel => exact ⟨k + 1, by omega, by go_num, HS2.out⟩
        case measure => simp [intOf]; omega
    · have hall : l.all hgtB = true := by
        rw [List.all_eq_true]
        intro b hb
        refine hpre b ?_
        rw [List.take_of_length_le (by have := Hn.out; omega)]
        exact hb
      have Ha := hidA hall
      clear hpre hall
      go_wp2
      refine bodyPost_ret (v := .tuple #[.agg #[.int .i64 x, .int .i64 y, .int .i64 ww, .int .i64 hh, .slice A n c], .int .i64 0]) (by simp [results, Try.results82, go_sem]) rfl ⟨.inl ⟨by first | exact Ha.out | simpa using Ha.out, rfl⟩, ?_⟩
      exact ((Ext.refl _).alloc _).alloc _

set_option maxHeartbeats 1600000 in
theorem empty_zero (w : World) : Calls Try.prog 21 #[.agg #[.int .i64 0, .int .i64 0, .int .i64 0, .int .i64 0, .slice none 0 0]] w fun e w' => e = .returned (.bool true) ∧ Ext w w' := by
  go_enter Try.func21, Try.ntmps21
  go_wp2
  go_ret
  exact ⟨rfl, (by repeat (first | exact Ext.refl _ | assumption | refine Ext.setCell ?_ (by first | (simp; done) | (simp; omega)) _ | refine Ext.drewN ?_ _ | refine Ext.alloc ?_ _ | refine Ext.drew ?_ | refine Ext.trans ?_ (by assumption)))⟩
theorem hgt_fin {b : Nat} (h : hgtB b = true) : finB b = true := bd_finB (hgt_bd h) (by omega)
/-- all are heights: no error -/
theorem numE_all {l : List Nat} (h : l.all hgtB = true) : numE l = 0 := by
  rw [List.all_eq_true] at h
  refine numE_ok (fun b hb => hgt_fin (h b hb)) h
theorem numE_not {l : List Nat} (h : l.all hgtB = false) : numE l ≠ 0 := fun e => by
  have h2 := (numE_zero e).2
  rw [List.all_eq_false] at h
  obtain ⟨b, hb, h3⟩ := h
  exact h3 (h2 b hb)
/-- what Result gives: the field, or nothing -/
def ResR (x y ww hh : Int) (sv : Value) (l : List Nat) (a b c d : Int) (v : Value) (ec : Int) : Prop :=
  l.all hgtB = true ∧ a = x ∧ b = y ∧ c = ww ∧ d = hh ∧ v = sv ∧ ec = 0 ∨ l.all hgtB = false ∧ a = 0 ∧ b = 0 ∧ c = 0 ∧ d = 0 ∧ v = .slice none 0 0 ∧ ec = 3
theorem result_one (x y ww hh : Int) (A : Option Addr) (n c : Nat) (l : List Nat) (w : World) (hn : l.length = n) (hr : Rd w A (flt l)) (hb : n ≤ 140737488351232) :
    Calls Try.prog 82 #[.agg #[.int .i64 x, .int .i64 y, .int .i64 ww, .int .i64 hh, .slice A n c]] w fun e w' => ∃ (a b c' d : Int) (vA : Option Addr) (vn vc : Nat) (ec : Int), e = .returned (.tuple #[.agg #[.int .i64 a, .int .i64 b, .int .i64 c', .int .i64 d, .slice vA vn vc], .int .i64 ec]) ∧ ResR x y ww hh (.slice A n c) l a b c' d (.slice vA vn vc) ec ∧ Ext w w' := by
  refine (result_any x y ww hh A n c l w hn hr hb).mono ?_
  rintro e w' ⟨⟨ha, rfl⟩ | ⟨ha, rfl⟩, hx⟩
  · exact ⟨_, _, _, _, _, _, _, _, rfl, .inl ⟨ha, rfl, rfl, rfl, rfl, rfl, rfl⟩, hx⟩
  · exact ⟨_, _, _, _, _, _, _, _, rfl, .inr ⟨ha, rfl, rfl, rfl, rfl, rfl, rfl⟩, hx⟩
theorem hgt_iff {b : Nat} : hgtB b = true ↔ Bd 20 b := ⟨hgt_bd, fun h => bd_hgt h (by omega)⟩
theorem hgt_val {a b : Nat} (h : valI a = valI b) : hgtB a = hgtB b := by
  rw [Bool.eq_iff_iff, hgt_iff, hgt_iff, bd_valI (by omega), bd_valI (by omega), h]
end Go.Proofs.Ytinohfgokpbcdaa
