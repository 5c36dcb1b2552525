/- Contract: water.Breach where its arguments are right. -/
import Derived.Test.YtinohfgokpbcdaaBrAA
import Derived.Test.YtinohfgokpbcdaaDsAP
import Derived.Test.YtinohfgokpbcdaaDsAG
import Derived.RegionTactic
import Derived.ChangeAlike
namespace Go.Proofs.Ytinohfgokpbcdaa
open Go.RowKit
attribute [local go_sem ↓] Go.wp_at_zero Go.wp_at_succ
attribute [local go_sem] run_store_float

set_option maxRecDepth 100000 in
set_option maxHeartbeats 3200000 in
theorem breach1_any (hp hf hk gv cp : Nat) (X Y : Int) (Wn Hn N k n d : Nat) (b : Bool) (v : Nat → Nat) (w : World) (hP : Bk w hp 4 #[.bool b]) (hF : Bk w hf 26 #[.int .i64 X, .int .i64 Y, .int .i64 (Wn : Int), .int .i64 (Hn : Int), .slice (some ⟨gv, 0, none⟩) N cp]) (hK : Bk w hk 3 #[.int .i64 (k : Int)]) (hV : CF w gv cp N v) (hn : n < N) (hk' : k < N) :
    Calls Try.prog 132 #[.int .i64 n, .int .i64 d, .pointer (some ⟨hp, 0, none⟩), .pointer (some ⟨hf, 0, none⟩), .pointer (some ⟨hk, 0, none⟩)] w fun e w' => e = .returned (.tuple #[]) ∧ Bk w' hp 4 #[.bool (b && geB (v n) (v k))] ∧ Kept hp w w' ∧ ∀ W0, Ext W0 w → W0.heap.size ≤ hp → Ext W0 w' := by
  have p0 : ∀ w', Ext w w' → w'.cell? ⟨hp, 0, none⟩ = some (.bool b) := fun w' h => (hP.ext h).cell 0
  have p1 : ∀ w', Ext w w' → w'.frozen? ⟨hp, 0, none⟩ = false := fun w' h => (hP.ext h).frozen 0
  have c4 : ∀ w', Ext w w' → w'.cell? ⟨hf, 4, none⟩ = some (.slice (some ⟨gv, 0, none⟩) N cp) := fun w' h => (hF.ext h).cell 4
  have k0 : ∀ w', Ext w w' → w'.cell? ⟨hk, 0, none⟩ = some (.int .i64 (k : Int)) := fun w' h => (hK.ext h).cell 0
  have v1 : ∀ w', Ext w w' → w'.cell? ⟨gv, n, none⟩ = some (.float .f32 (v n)) := fun w' h => (hV.ext h).cell hn
  have v2 : ∀ w', Ext w w' → w'.cell? ⟨gv, k, none⟩ = some (.float .f32 (v k)) := fun w' h => (hV.ext h).cell hk'
  have hge : (FloatKind.f32.format.order (v n) (v k) == some .gt || FloatKind.f32.format.order (v n) (v k) == some .eq) = geB (v n) (v k) := rfl
  have i0 : (0 : Int) ≤ n := by omega
  have i1 : (n : Int) < N := by omega
  have i2 : (0 : Int) ≤ k := by omega
  have i3 : (k : Int) < N := by omega
  have HP := hidA (fun (r : Bool) => Bk.set hP 0 (.bool r))
  have HP2 := hidA hP
  clear hP hF hK hV hn hk'
  generalize geB (v n) (v k) = g at *
  generalize v n = x at *
  generalize v k = y at *
  have p0' := p0 _ (Ext.refl w)
  have p1' := p1 _ (Ext.refl w)
  have c4' := c4 _ (Ext.refl w)
  have k0' := k0 _ (Ext.refl w)
  have v1' := v1 _ (Ext.refl w)
  have v2' := v2 _ (Ext.refl w)
  clear p0 p1 c4 k0 v1 v2
  go_enter Try.func132, Try.ntmps132
  cases b with
  | false =>
    go_region
    refine bodyPost_end (results_none Try.results132 _ _ _) rfl ?_
    exact ⟨rfl, (HP.out false).drew, ((Kept.refl hp w).set 0 _).ext (Ext.drew (Ext.refl _)), fun W0 h h2 => (h.setCell (p := ⟨hp, 0, none⟩) h2 _).drew⟩
  | true =>
    go_region
    refine bodyPost_end (results_none Try.results132 _ _ _) rfl ?_
    exact ⟨rfl, (HP.out g).drew, ((Kept.refl hp w).set 0 _).ext (Ext.drew (Ext.refl _)), fun W0 h h2 => (h.setCell (p := ⟨hp, 0, none⟩) h2 _).drew⟩
theorem CF.rd {w : World} {g cp N : Nat} {v : Nat → Nat} (h : CF w g cp N v) : Rd w (some ⟨g, 0, none⟩) (flt ((List.range N).map v)) := fun _ => by
  refine ⟨_, rfl, h.lt, fun j u hu => ?_⟩
  have hj : j < N := by
    have := (List.getElem?_eq_some_iff.1 hu).1
    simpa [flt] using this
  rw [lit_add, h.cell hj]
  simpa [flt, hj] using hu
theorem Lead.trs {D : Nat → Int} {m : Nat → Nat} {Wn Hn N : Nat} (h : Lead Wn Hn N D m) (hN : N = Wn * Hn) : ∃ tr : Nat → List Nat, ∀ k, k < N → IsTr D Wn Hn k (tr k) := by
  have h1 : ∀ k, ∃ t, k < N → IsTr D Wn Hn k t := fun k => by
    by_cases hk : k < N
    · obtain ⟨t, h2, _⟩ := h.tr hN (m k + 1) k (by omega) hk
      exact ⟨t, fun _ => h2⟩
    · exact ⟨[], fun h => absurd h hk⟩
  exact ⟨fun k => Classical.choose (h1 k), fun k => Classical.choose_spec (h1 k)⟩
/-- what Breach holds between the cells -/
structure BM (W0 w : World) (hf ho hz gv cp : Nat) (X Y : Int) (Wn Hn N : Nat) (A : Option Addr) (c : Nat) (u : Nat → Nat) : Prop where
  fb : Bk w hf 26 #[.int .i64 X, .int .i64 Y, .int .i64 (Wn : Int), .int .i64 (Hn : Int), .slice A N c]
  ob : Bk w ho 26 #[.int .i64 X, .int .i64 Y, .int .i64 (Wn : Int), .int .i64 (Hn : Int), .slice (some ⟨gv, 0, none⟩) N cp]
  zb : Bk w hz 26 #[.int .i64 0, .int .i64 0, .int .i64 0, .int .i64 0, .slice none 0 0]
  vb : CF w gv cp N u
  ext : Ext W0 w
  b1 : W0.heap.size ≤ gv
section
variable {W0 w : World} {hf ho hz gv cp : Nat} {X Y : Int} {Wn Hn N : Nat} {A : Option Addr} {c : Nat} {u : Nat → Nat}
theorem BM.step (h : BM W0 w hf ho hz gv cp X Y Wn Hn N A c u) {w' : World} (hx : Ext w w') : BM W0 w' hf ho hz gv cp X Y Wn Hn N A c u := ⟨h.fb.ext hx, h.ob.ext hx, h.zb.ext hx, h.vb.ext hx, h.ext.trans hx, h.b1⟩
theorem BM.kept (h : BM W0 w hf ho hz gv cp X Y Wn Hn N A c u) {w' : World} {q : Nat} (hk : Kept q w w') (hx : Ext W0 w') (h1 : hf ≠ q) (h2 : ho ≠ q) (h3 : hz ≠ q) (h4 : gv ≠ q) : BM W0 w' hf ho hz gv cp X Y Wn Hn N A c u :=
  ⟨hk.2 _ _ _ h1 h.fb, hk.2 _ _ _ h2 h.ob, hk.2 _ _ _ h3 h.zb, h.vb.kept hk h4, hx, h.b1⟩
theorem BM.cut (h : BM W0 w hf ho hz gv cp X Y Wn Hn N A c u) {w' : World} {u' : Nat → Nat} (hv : CF w' gv cp N u') (hk : Kept gv w w') (hx : Ext W0 w') : BM W0 w' hf ho hz gv cp X Y Wn Hn N A c u' :=
  ⟨hk.2 _ _ _ (h.vb.ne h.fb (by decide)) h.fb, hk.2 _ _ _ (h.vb.ne h.ob (by decide)) h.ob, hk.2 _ _ _ (h.vb.ne h.zb (by decide)) h.zb, hv, hx, h.b1⟩
end
/-- the error of a step of Breach -/
def stepE (s : Nat) : Int := if numE [s] ≠ 0 then numE [s] else if lt s 0 = true ∨ gt s 1065353216 = true then 3 else 0
theorem step_ok {s : Nat} (h : stepE s = 0) : Fin s ∧ numE [s] = 0 ∧ lt s 0 = false ∧ gt s 1065353216 = false := by
  unfold stepE at h
  split at h
  · exact absurd h ‹_›
  · rename_i hn
    split at h
    · cases h
    · rename_i h2
      have hn0 : numE [s] = 0 := by simpa using hn
      have hb := hgt_bd ((numE_zero hn0).2 s (by simp))
      exact ⟨bd_Fin hb (by omega), hn0, by cases h : lt s 0 <;> simp_all, by cases h : gt s 1065353216 <;> simp_all⟩
theorem enters_breach : ∀ args w, (callFunc 132 args).run Try.prog w = .ok (.enter 132 args) w := enters_of Try.func132 (by kernel_rfl) rfl
def BreachPost (X Y : Int) (Wn Hn N s : Nat) (l : List Nat) (w : World) (e : Ending) (w' : World) : Prop :=
  ∃ g cp vf tr, LeastG Wn Hn (fun k => l.getD k 0) 0 (fun k => valI (vf k)) ∧ (∀ k, k < N → IsTr (drnV vf (rkV vf Wn Hn (N - 1)) Wn Hn) Wn Hn k (tr k)) ∧ CF w' g cp N (brcV s tr Wn Hn (fun j => l.getD j 0) N) ∧ w.heap.size ≤ g ∧ Ext w w' ∧
    (((List.range N).map (brcV s tr Wn Hn (fun j => l.getD j 0) N)).all hgtB = true ∧ e = .returned (.tuple #[.agg #[.int .i64 X, .int .i64 Y, .int .i64 (Wn : Int), .int .i64 (Hn : Int), .slice (some ⟨g, 0, none⟩) N cp], .int .i64 0]) ∨
     ((List.range N).map (brcV s tr Wn Hn (fun j => l.getD j 0) N)).all hgtB = false ∧ e = .returned (.tuple #[.agg #[.int .i64 0, .int .i64 0, .int .i64 0, .int .i64 0, .slice none 0 0], .int .i64 3]))

set_option maxRecDepth 100000 in
set_option maxHeartbeats 6400000 in
theorem Breach_ok (X Y : Int) (Wn Hn N : Nat) (A : Option Addr) (c s : Nat) (l : List Nat) (w : World) (hr : Reg X Y Wn Hn) (hN : N = Wn * Hn) (hl : l.length = N) (hV : Rd w A (flt l)) (hf : fieldE X Y Wn Hn l = 0) (hs : stepE s = 0) :
    Calls Try.prog 76 #[.agg #[.int .i64 X, .int .i64 Y, .int .i64 (Wn : Int), .int .i64 (Hn : Int), .slice A N c], .float .f32 s] w fun e w' => BreachPost X Y Wn Hn N s l w e w' := by
  obtain ⟨s1, s3, s4, s5⟩ := step_ok hs
  have hN6 : N ≤ 65536 := by rw [hN]; exact hr.n
  have hN1 : 1 ≤ N := by rw [hN]; exact Nat.mul_pos hr.w1 hr.h1
  have hnum : numE l = 0 := by
    have hr0 : regE X Y Wn Hn = 0 := by
      unfold fieldE at hf
      split at hf
      · rename_i h; exact absurd hf h
      · rename_i h; simpa using h
    rw [← hf, fieldE_num hr0 (by rw [hl, hN, Int.natCast_mul])]
  have hh : ∀ x ∈ l, Bd 20 x := fun x hx => hgt_bd ((numE_zero hnum).2 x hx)
  have hhk : ∀ k, k < N → Bd 20 (l.getD k 0) := fun k hk => by
    have hkl : k < l.length := by omega
    have e : l.getD k 0 = l[k] := by simp [List.getD_eq_getElem?_getD, hkl]
    rw [e]
    exact hh _ (List.getElem_mem hkl)
  obtain ⟨ad, rfl, _, _⟩ := hV.at (k := 0) (by rw [flt_length]; omega)
  have HC := fun (w : World) (h : Rd w (some ad) (flt l)) => hidA (check_any X Y Wn Hn (some ad) N c l w hl h (by omega))
  rw [hf] at HC
  have HS := fun (B : Option Addr) (w : World) (h : Rd w B (flt [s])) => hidA (heights_any B 1 1 [s] w rfl h (by omega))
  rw [s3] at HS
  have HD := fun (w : World) (h : Rd w (some ad) (flt l)) => hidA (drain_any X Y Wn Hn N (some ad) c l w hr hN hl h hh)
  have HCp := fun (w : World) (h : Rd w (some ad) (flt l)) => hidA (Copy_any X Y Wn Hn N c ad l w hl h hN1 (by omega))
  have HBo := fun (k : Nat) (w : World) (hk : k < N) => hidA (border_any X Y Wn Hn k w hr (by rw [← hN]; exact hk))
  unfold rgv at HBo
  have HCut := hidA (fun (k gv cp gd : Nat) (D : Nat → Int) (m : Nat → Nat) (v : Nat → Nat) (t : List Nat) (W0 w : World) (hD : DirsAt W0 (some ⟨gd, 0, none⟩) N D) (hL : Lead Wn Hn N D m) (hk : k < N) (hx : Ext W0 w) (hg : W0.heap.size ≤ gv) (hv : CF w gv cp N v) (hn : ∀ j, j < N → NN (v j)) (ht : IsTr D Wn Hn k t) => cut_any X Y Wn Hn N k N s gv cp (some ⟨gd, 0, none⟩) D m v t W0 w hr hN hD hL hk s1 hx hg hv hn ht)
  have HNN := hidA (fun (tr : Nat → List Nat) (k : Nat) (hk : k ≤ N) => brc_nn (N := N) (tr := tr) (Wn := Wn) (Hn := Hn) (v := fun j => l.getD j 0) s1 (fun j hj => nn_fin (bd_Fin (hhk j hj) (by omega))) k hk)
  have s4' : (FloatKind.f32.format.order s 0 == some .lt) = false := s4
  have s5' : (FloatKind.f32.format.order s 1065353216 == some .gt) = false := s5
  have Hld := hidA (fun (vf : Nat → Nat) (hv : ∀ k, k < N → Bd 20 (vf k)) (hL : LeastG Wn Hn (fun k => l.getD k 0) 0 (fun k => valI (vf k))) => (drn_lead hr.w1 hN hN1 hhk hv hL).1)
  have Hl := hidA hl
  have HN := hidA hN
  have Hr := hidA hr
  clear hr hN hl hf hs s1 s3 s4 s5 hnum hh hhk
  go_enter Try.func76, Try.ntmps76
  go_upto_region 9 with (first | (go_at_call 80; refine ((HC _ (hV.ext (by repeat (first | exact Ext.refl _ | assumption | refine Ext.setCell ?_ (by first | (simp; done) | (simp; omega)) _ | refine Ext.drewN ?_ _ | refine Ext.alloc ?_ _ | refine Ext.drew ?_ | refine Ext.trans ?_ (by assumption))))).out).mono ?_; rintro e w1 ⟨rfl, hx1⟩) | (go_at_call 81; refine ((HS _ _ (Rd.new rfl rfl)).out).mono ?_; rintro e w2 ⟨rfl, rfl⟩))
  have kF : Bk (w1.alloc (.cells #[.float .f32 s] 27)) w.heap.size 26 #[.int .i64 X, .int .i64 Y, .int .i64 (Wn : Int), .int .i64 (Hn : Int), .slice (some ad) N c] := (((Bk.new' rfl).alloc _).ext hx1).alloc _
  have kZ : Bk (w1.alloc (.cells #[.float .f32 s] 27)) (w.heap.size + 1) 26 #[.int .i64 0, .int .i64 0, .int .i64 0, .int .i64 0, .slice none 0 0] := ((Bk.new' (by simp)).ext hx1).alloc _
  have hxA : Ext w (w1.alloc (.cells #[.float .f32 s] 27)) := ((((Ext.refl w).alloc _).alloc _).trans hx1).alloc _
  generalize w1.alloc (.cells #[.float .f32 s] 27) = wA at *
  have hz0 : w.heap.size ≤ w.heap.size + 1 := Nat.le_succ _
  generalize w.heap.size + 1 = hz at *
  generalize hw0 : w.heap.size = hf at *
  have Hw0 := hidA hw0
  clear hw0 hx1
  have c0 := kF.cell 0
  have c1 := kF.cell 1
  have c2 := kF.cell 2
  have c3 := kF.cell 3
  have c4 := kF.cell 4
  clear HC HS s4' s5'
  go_upto_region 10 with (go_at_call 126; refine ((HD _ (hV.ext hxA)).out).mono ?_; rintro e w3 ⟨gd, vf, rfl, hL, h20, hB, hgd, hx3⟩)
  have kF3 := kF.ext hx3
  have kZ3 := kZ.ext hx3
  have hDs := DirsAt.of_bk hB
  have hLd := Hld.out vf h20 hL
  have HL := hidA hL
  clear hL h20 hB c0 c1 c2 c3 c4 kF kZ HD
  obtain ⟨tr, htr⟩ := hLd.trs HN.out
  have Htr := hidA htr
  have HLd := hidA hLd
  clear htr hLd
  have c0 := kF3.cell 0
  have c1 := kF3.cell 1
  have c2 := kF3.cell 2
  have c3 := kF3.cell 3
  have c4 := kF3.cell 4
  go_upto_region 11 with (go_at_call 90; refine ((HCp _ (hV.ext (hxA.trans hx3))).out).mono ?_; rintro e w4 ⟨gv, cp, cur, rfl, hgv, hCl, hx4⟩)
  have hM : BM w3 (w4.alloc (.cells #[.int .i64 X, .int .i64 Y, .int .i64 (Wn : Int), .int .i64 (Hn : Int), .slice (some ⟨gv, 0, none⟩) N cp] 26)) hf w4.heap.size hz gv cp X Y Wn Hn N (some ad) c (fun k => l.getD k 0) :=
    ⟨(kF3.ext hx4).alloc _, Bk.new' rfl, (kZ3.ext hx4).alloc _, CF.ext ⟨cur, hCl⟩ ((Ext.refl w4).alloc _), hx4.alloc _, hgv⟩
  have HE3 := hidA (hxA.trans hx3)
  clear c0 c1 c2 c3 c4 kF3 kZ3 hCl hx4 HCp hgv hx3 hxA hgd hV
  generalize w4.alloc (.cells #[.int .i64 X, .int .i64 Y, .int .i64 (Wn : Int), .int .i64 (Hn : Int), .slice (some ⟨gv, 0, none⟩) N cp] 26) = w5 at *
  generalize w4.heap.size = ho at *
  have o4 : w5.cell? ⟨ho, 4, none⟩ = some (.slice (some ⟨gv, 0, none⟩) N cp) := hM.ob.cell 4
  go_wp2_with fail
  clear o4
  go_loopw [39] (fun s39 wr => ∃ (k : Nat), k ≤ N ∧ s39 = .int .i64 k ∧ BM w3 wr hf ho hz gv cp X Y Wn Hn N (some ad) c (brcV s tr Wn Hn (fun j => l.getD j 0) k)) (fun s39 _ => N - (intOf s39).toNat)
  case atStart => exact ⟨0, Nat.zero_le _, rfl, hM⟩
  case round =>
    clear hM
    obtain ⟨k, hk, rfl, hM⟩ := hrel
    by_cases hkN : k < N
    · have i1 : (0 : Int) ≤ k := by omega
      have i2 : (k : Int) < N := by omega
      have HBk := fun w => HBo k w hkN
      have Hb := hidA (show brcV s tr Wn Hn (fun j => l.getD j 0) (k + 1) = if lowD (brcV s tr Wn Hn (fun j => l.getD j 0) k) Wn Hn k 8 = true then brcV s tr Wn Hn (fun j => l.getD j 0) k else cutV s (tr k) (brcV s tr Wn Hn (fun j => l.getD j 0) k k) (brcV s tr Wn Hn (fun j => l.getD j 0) k) from rfl)
      have Hnn := hidA (HNN.out tr k hk)
      generalize brcV s tr Wn Hn (fun j => l.getD j 0) k = u at *
      have hM1 := hM.step ((Ext.refl wr).alloc (.cells #[.int .i64 (k : Int)] 3))
      have hK1 : Bk (wr.alloc (.cells #[.int .i64 (k : Int)] 3)) wr.heap.size 3 #[.int .i64 (k : Int)] := Bk.new' rfl
      go_upto_region 14 with fail
      generalize wr.alloc (.cells #[.int .i64 (k : Int)] 3) = w6 at *
      generalize wr.heap.size = hk' at *
      have c0 := hM1.fb.cell 0
      have c1 := hM1.fb.cell 1
      have c2 := hM1.fb.cell 2
      have c3 := hM1.fb.cell 3
      have k0 := hK1.cell 0
      go_upto_region 15 with (go_at_call 131; refine ((HBk _).out).mono ?_; rintro e w7 ⟨rfl, hx7⟩)
      have hM7 := hM1.step (hx7.trans ((Ext.refl w7).alloc (.cells #[.bool (!brd Wn Hn k)] 4)))
      have hK7 := hK1.ext (hx7.trans ((Ext.refl w7).alloc (.cells #[.bool (!brd Wn Hn k)] 4)))
      have hP7 : Bk (w7.alloc (.cells #[.bool (!brd Wn Hn k)] 4)) w7.heap.size 4 #[.bool (!brd Wn Hn k)] := Bk.new' rfl
      have hb7 : w3.heap.size ≤ w7.heap.size := by have := hM1.ext.size; have := hx7.size; omega
      clear c0 c1 c2 c3 k0 hM hM1 hK1 hx7
      generalize w7.alloc (.cells #[.bool (!brd Wn Hn k)] 4) = w8 at *
      generalize w7.heap.size = hp at *
      have n1 : hf ≠ hp := Bk.ne hM7.fb hP7 (by decide)
      have n2 : ho ≠ hp := Bk.ne hM7.ob hP7 (by decide)
      have n3 : hz ≠ hp := Bk.ne hM7.zb hP7 (by decide)
      have n4 : gv ≠ hp := fun e => hM7.vb.ne hP7 (by decide) e.symm
      have n5 : hk' ≠ hp := Bk.ne hK7 hP7 (by decide)
      have HI := hidA (nbs_any 132 #[.pointer (some ⟨hp, 0, none⟩), .pointer (some ⟨ho, 0, none⟩), .pointer (some ⟨hk', 0, none⟩)] enters_breach X Y Wn Hn k Hr.out (by rw [← HN.out]; exact hkN)
        (fun d w' => Bk w' hp 4 #[.bool (pitD u Wn Hn k d)] ∧ Kept hp w8 w' ∧ Ext w3 w')
        (fun d wa wb ⟨h1, h2, h3⟩ hx => ⟨h1.ext hx, h2.ext hx, h3.trans hx⟩)
        (fun d n wa hd8 hnb ⟨h1, h2, h3⟩ => by
          have hnN : n < N := by rw [HN.out]; exact nbr_lt hnb
          have hMa := hM7.kept h2 h3 n1 n2 n3 n4
          refine (breach1_any hp ho hk' gv cp X Y Wn Hn N k n d _ u wa h1 hMa.ob (h2.2 _ _ _ n5 hK7) hMa.vb hnN hkN).mono ?_
          rintro e wb ⟨rfl, hb1, hb2, hb3⟩
          refine ⟨rfl, ⟨by rw [pit_some hnb]; exact hb1, ⟨Nat.le_trans h2.1 hb2.1, fun b t cs hb hB => hb2.2 b t cs hb (h2.2 b t cs hb hB)⟩, hb3 w3 h3 hb7⟩, fun g cs hB => hb2.2 _ _ _ (Bk.ne hB h1 (by decide)) hB⟩)
        (fun d wa hd8 hnb ⟨h1, h2, h3⟩ => ⟨by rw [pit_none hnb]; exact h1, h2, h3⟩)
        w8 ⟨hP7, Kept.refl _ _, hM7.ext⟩)
      unfold rgv at HI
      have c0 := hM7.fb.cell 0
      have c1 := hM7.fb.cell 1
      have c2 := hM7.fb.cell 2
      have c3 := hM7.fb.cell 3
      have k0 := hK7.cell 0
      have hpl := pit_low (v := u) (Wn := Wn) (Hn := Hn) (by rw [← HN.out]; exact Hnn.out) (by rw [← HN.out]; exact hkN) 8
      rw [hpl] at HI
      clear hpl
      go_upto_region 16 with (go_at_call 128; refine HI.out.mono ?_; rintro e w9 ⟨rfl, hP9, hKp, hx9⟩)
      have hM9 := hM7.kept hKp hx9 n1 n2 n3 n4
      have hK9 := hKp.2 _ _ _ n5 hK7
      clear c0 c1 c2 c3 k0 HI hM7 hK7 hP7 hKp hx9 n1 n2 n3 n4 n5
      have p0 := hP9.cell 0
      cases hlow : lowD u Wn Hn k 8 with
      | true =>
        rw [hlow] at p0
        rw [hlow, if_pos rfl] at Hb
        clear hlow hP9
        go_wp2_with fail
        go_roundw
        case rel => exact ⟨k + 1, by omega, by go_num, by rw [Hb.out]; exact hM9⟩
        case measure => simp [intOf]; omega
      | false =>
        rw [hlow] at p0
        rw [hlow, if_neg (by decide)] at Hb
        clear hlow hP9
        have HCk := hidA (HCut.out k gv cp gd _ _ u (tr k) w3 w9 hDs HLd.out hkN hM9.ext hM9.b1 hM9.vb Hnn.out (Htr.out k hkN))
        have c0 := hM9.ob.cell 0
        have c1 := hM9.ob.cell 1
        have c2 := hM9.ob.cell 2
        have c3 := hM9.ob.cell 3
        have c4 := hM9.ob.cell 4
        have k0 := hK9.cell 0
        go_upto_region 18 with (go_at_call 133; refine (HCk.out).mono ?_; rintro e w10 ⟨rfl, hV10, hKp10, hx10⟩)
        have hM10 := hM9.cut hV10 hKp10 hx10
        clear c0 c1 c2 c3 c4 k0 p0 hM9 hK9 hV10 hKp10 hx10 HCk
        go_wp2_with fail
        go_roundw
        case rel => exact ⟨k + 1, by omega, by go_num, by rw [Hb.out]; exact hM10⟩
        case measure => simp [intOf]; omega
    · obtain rfl : N = k := by omega
      have hR : Rd wr (some ⟨gv, 0, none⟩) (flt ((List.range N).map (brcV s tr Wn Hn (fun j => l.getD j 0) N))) := hM.vb.rd
      have c0 := hM.ob.cell 0
      have c1 := hM.ob.cell 1
      have c2 := hM.ob.cell 2
      have c3 := hM.ob.cell 3
      have c4 := hM.ob.cell 4
      have Hgo := hidA (show BM w3 wr hf ho hz gv cp X Y Wn Hn N (some ad) c (brcV s tr Wn Hn (fun j => l.getD j 0) N) from hM)
      clear HNN HCut HBo Hld
      generalize hu : brcV s tr Wn Hn (fun j => l.getD j 0) N = u at *
      have Hu := hidA hu
      clear hu hM
      have HRs := hidA (result_one X Y Wn Hn (some ⟨gv, 0, none⟩) N cp ((List.range N).map u) wr (by simp) hR (by omega))
      have z0 := Hgo.out.zb.cell 0
      have z1 := Hgo.out.zb.cell 1
      have z2 := Hgo.out.zb.cell 2
      have z3 := Hgo.out.zb.cell 3
      have z4 := Hgo.out.zb.cell 4
      go_wp2_with (go_at_call 82; refine (HRs.out).mono ?_; rintro e w11 ⟨a, b, c', d, vA, vn, vc, ec, rfl, hrel, hx11⟩; have kZ4 := Hgo.out.zb.ext hx11; have z0 := kZ4.cell 0; have z1 := kZ4.cell 1; have z2 := kZ4.cell 2; have z3 := kZ4.cell 3; have z4 := kZ4.cell 4; have y0 := kZ4.frozen 0; have y1 := kZ4.frozen 1; have y2 := kZ4.frozen 2; have y3 := kZ4.frozen 3; have y4 := kZ4.frozen 4)
      have hgz : gv ≠ hz := fun e => Hgo.out.vb.ne Hgo.out.zb (by decide) e.symm
      have hz1 : w.heap.size ≤ hz := by have := Hw0.out; omega
      refine bodyPost_ret (v := .tuple #[.agg #[.int .i64 a, .int .i64 b, .int .i64 c', .int .i64 d, .slice vA vn vc], .int .i64 ec]) (by simp [results, Try.results76, go_sem, z0, z1, z2, z3, z4]) rfl ?_
      refine ⟨gv, cp, vf, tr, HL.out, Htr.out, ?_⟩
      rw [Hu.out]
      refine ⟨?_, by have := HE3.out.size; have := Hgo.out.b1; omega, ?_, ?_⟩
      · have hB4 := Hgo.out.vb.ext hx11
        repeat (first | (with_reducible exact hB4) | (with_reducible refine CF.far ?_ hgz _))
      · have hx5 : Ext w w11 := HE3.out.trans (Hgo.out.ext.trans hx11)
        clear hx11
        repeat (first | (with_reducible exact hx5) | (with_reducible refine Ext.setCell ?_ hz1 _))
      · rcases hrel with ⟨h1, rfl, rfl, rfl, rfl, h6, rfl⟩ | ⟨h1, rfl, rfl, rfl, rfl, h6, rfl⟩
        · exact .inl ⟨h1, by rw [h6]⟩
        · exact .inr ⟨h1, by rw [h6]⟩
end Go.Proofs.Ytinohfgokpbcdaa
