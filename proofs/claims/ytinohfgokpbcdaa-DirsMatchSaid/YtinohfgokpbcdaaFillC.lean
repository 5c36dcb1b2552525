/- Contracts: water.Filled; pits are filled (the guard flows). -/
import Derived.Test.YtinohfgokpbcdaaFillB
import Derived.Test.YtinohfgokpbcdaaResP
import Derived.RegionTactic
namespace Go.Proofs.Ytinohfgokpbcdaa
open Go.RowKit
attribute [local go_sem ↓] Go.wp_at_zero Go.wp_at_succ
attribute [local go_sem] run_store_float

/-- the error of a slope -/
def slopeE (s : Nat) : Int := if numE [s] ≠ 0 then numE [s] else if lt s 0 = true ∨ gt s 1149239296 = true then 3 else 0
theorem slope_ok {s : Nat} (h : slopeE s = 0) : Bd 10 s ∧ 0 ≤ valI s ∧ numE [s] = 0 ∧ lt s 0 = false ∧ gt s 1149239296 = false := by
  unfold slopeE at h
  split at h
  · exact absurd h ‹_›
  · rename_i hn
    split at h
    · cases h
    · rename_i h2
      have hn0 : numE [s] = 0 := by simpa using hn
      have hb := hgt_bd ((numE_zero hn0).2 s (by simp))
      have hf := bd_Fin hb (by omega)
      have h3 : lt s 0 = false := by cases h : lt s 0 <;> simp_all
      have h4 : gt s 1149239296 = false := by cases h : gt s 1149239296 <;> simp_all
      have f1 : Fin 0 := by unfold Fin; omega
      have f2 : Fin 1149239296 := by unfold Fin; omega
      have h5 := h3
      have h6 := h4
      rw [lt_val hf f1, val_zero] at h5
      rw [gt_val hf f2] at h6
      have e : valI 1149239296 = 2 ^ 159 := by decide +kernel
      rw [e] at h6
      simp at h5 h6
      refine ⟨?_, h5, hn0, h3, h4⟩
      rw [bd_valI (by omega)]
      omega

theorem Rd.new_bk {w : World} {g : Nat} {t : TypeId} {cs : Array Value} (h : Bk w g t cs) : Rd w (some ⟨g, 0, none⟩) cs.toList := fun _ => ⟨_, rfl, h.lt, fun j u hu => by
  rw [lit_add, h.cell]
  simpa using hu⟩
def FilledPost (X Y : Int) (Wn Hn N slope : Nat) (l : List Nat) (w : World) (e : Ending) (w' : World) : Prop :=
  ∃ g out, w.heap.size ≤ g ∧ Bk w' g 27 (flo N out) ∧ LeastG Wn Hn (fun k => l.getD k 0) slope (fun k => valI (out k)) ∧ (∀ k, k < N → Bd 36 (out k)) ∧ Ext w w' ∧
    (((List.range N).map out).all hgtB = true ∧ e = .returned (.tuple #[.agg #[.int .i64 X, .int .i64 Y, .int .i64 (Wn : Int), .int .i64 (Hn : Int), .slice (some ⟨g, 0, none⟩) N N], .int .i64 0]) ∨
     ((List.range N).map out).all hgtB = false ∧ e = .returned (.tuple #[.agg #[.int .i64 0, .int .i64 0, .int .i64 0, .int .i64 0, .slice none 0 0], .int .i64 3]))

set_option maxRecDepth 100000 in
set_option maxHeartbeats 3200000 in
theorem Filled_ok (X Y : Int) (Wn Hn N : Nat) (A : Option Addr) (c slope : Nat) (l : List Nat) (w : World) (hr : Reg X Y Wn Hn) (hN : N = Wn * Hn) (hl : l.length = N) (hV : Rd w A (flt l)) (hf : fieldE X Y Wn Hn l = 0) (hs : slopeE slope = 0) :
    Calls Try.prog 15 #[.agg #[.int .i64 X, .int .i64 Y, .int .i64 (Wn : Int), .int .i64 (Hn : Int), .slice A N c], .float .f32 slope] w fun e w' => FilledPost X Y Wn Hn N slope l w e w' := by
  obtain ⟨s1, s2, s3, s4, s5⟩ := slope_ok hs
  have hN6 : N ≤ 65536 := by rw [hN]; exact hr.n
  have hnum : numE l = 0 := by
    have hr0 : regE X Y Wn Hn = 0 := by
      unfold fieldE at hf
      split at hf
      · rename_i h; exact absurd hf h
      · rename_i h; simpa using h
    rw [← hf, fieldE_num hr0 (by rw [hl, hN, Int.natCast_mul])]
  have hh : ∀ x ∈ l, Bd 20 x := fun x hx => hgt_bd ((numE_zero hnum).2 x hx)
  have HC := fun (w : World) (h : Rd w A (flt l)) => hidA (check_any X Y Wn Hn A N c l w hl h (by omega))
  rw [hf] at HC
  have HS := fun (B : Option Addr) (w : World) (h : Rd w B (flt [slope])) => hidA (heights_any B 1 1 [slope] w rfl h (by omega))
  rw [s3] at HS
  have HF := fun (w : World) (h : Rd w A (flt l)) => hidA (filled_any X Y Wn Hn N A c slope l w hr hN hl h hh s1 s2)
  have s4' : (FloatKind.f32.format.order slope 0 == some .lt) = false := s4
  have s5' : (FloatKind.f32.format.order slope 1149239296 == some .gt) = false := s5
  have Hl := hidA hl
  clear hr hN hl hf hs s1 s2 s3 s4 s5 hnum hh
  go_enter Try.func15, Try.ntmps15
  go_upto_region 9 with (first | (go_at_call 80; refine ((HC _ (hV.ext (by repeat (first | exact Ext.refl _ | assumption | refine Ext.setCell ?_ (by first | (simp; done) | (simp; omega)) _ | refine Ext.drewN ?_ _ | refine Ext.alloc ?_ _ | refine Ext.drew ?_ | refine Ext.trans ?_ (by assumption))))).out).mono ?_; rintro e w1 ⟨rfl, hx1⟩) | (go_at_call 81; refine ((HS _ _ (Rd.new rfl rfl)).out).mono ?_; rintro e w2 ⟨rfl, rfl⟩))
  have kF : Bk (w1.alloc (.cells #[.float .f32 slope] 27)) w.heap.size 26 #[.int .i64 X, .int .i64 Y, .int .i64 (Wn : Int), .int .i64 (Hn : Int), .slice A N c] := (((Bk.new' rfl).alloc _).ext hx1).alloc _
  have kZ : Bk (w1.alloc (.cells #[.float .f32 slope] 27)) (w.heap.size + 1) 26 #[.int .i64 0, .int .i64 0, .int .i64 0, .int .i64 0, .slice none 0 0] := ((Bk.new' (by simp)).ext hx1).alloc _
  have hxA : Ext w (w1.alloc (.cells #[.float .f32 slope] 27)) := ((((Ext.refl w).alloc _).alloc _).trans hx1).alloc _
  generalize w1.alloc (.cells #[.float .f32 slope] 27) = wA at *
  have c0 := kF.cell 0
  have c1 := kF.cell 1
  have c2 := kF.cell 2
  have c3 := kF.cell 3
  have c4 := kF.cell 4
  clear HC HS s4' s5'
  have Hfl := fun (N : Nat) (g : Nat → Nat) => hidA (flo_list N g)
  go_region_with (first | (go_at_call 83; refine ((HF _ (hV.ext (hxA.trans (by repeat (first | exact Ext.refl _ | assumption | refine Ext.setCell ?_ (by first | (simp; done) | (simp; omega)) _ | refine Ext.drewN ?_ _ | refine Ext.alloc ?_ _ | refine Ext.drew ?_ | refine Ext.trans ?_ (by assumption)))))).out).mono ?_; rintro e w3 ⟨g, out, rfl, hg, hB3, hL, h36, hx3⟩; have kF3 := kF.ext (Ext.trans (by repeat (first | exact Ext.refl _ | assumption | refine Ext.setCell ?_ (by first | (simp; done) | (simp; omega)) _ | refine Ext.drewN ?_ _ | refine Ext.alloc ?_ _ | refine Ext.drew ?_ | refine Ext.trans ?_ (by assumption))) hx3); have g0 := kF3.cell 0; have g1 := kF3.cell 1; have g2 := kF3.cell 2; have g3 := kF3.cell 3; have hR3 : Rd w3 (some ⟨g, 0, none⟩) (flt ((List.range N).map out)) := (by have h := Rd.new_bk hB3; rwa [(Hfl _ _).out] at h); have kZ3 := kZ.ext (Ext.trans (by repeat (first | exact Ext.refl _ | assumption | refine Ext.setCell ?_ (by first | (simp; done) | (simp; omega)) _ | refine Ext.drewN ?_ _ | refine Ext.alloc ?_ _ | refine Ext.drew ?_ | refine Ext.trans ?_ (by assumption))) hx3)) | (go_at_call 82; refine (result_one X Y Wn Hn (some ⟨g, 0, none⟩) N N ((List.range N).map out) _ (by simp) (hR3.ext (by repeat (first | exact Ext.refl _ | assumption | refine Ext.setCell ?_ (by first | (simp; done) | (simp; omega)) _ | refine Ext.drewN ?_ _ | refine Ext.alloc ?_ _ | refine Ext.drew ?_ | refine Ext.trans ?_ (by assumption)))) (by omega)).mono ?_; rintro e w4 ⟨a, b, c', d, vA, vn, vc, ec, rfl, hrel, hx4⟩; have kZ4 := kZ3.ext (Ext.trans (by repeat (first | exact Ext.refl _ | assumption | refine Ext.setCell ?_ (by first | (simp; done) | (simp; omega)) _ | refine Ext.drewN ?_ _ | refine Ext.alloc ?_ _ | refine Ext.drew ?_ | refine Ext.trans ?_ (by assumption))) hx4); have z0 := kZ4.cell 0; have z1 := kZ4.cell 1; have z2 := kZ4.cell 2; have z3 := kZ4.cell 3; have z4 := kZ4.cell 4; have y0 := kZ4.frozen 0; have y1 := kZ4.frozen 1; have y2 := kZ4.frozen 2; have y3 := kZ4.frozen 3; have y4 := kZ4.frozen 4))
  all_goals
    go_wp2
    refine bodyPost_ret (v := .tuple #[.agg #[.int .i64 a, .int .i64 b, .int .i64 c', .int .i64 d, .slice vA vn vc], .int .i64 ec]) (by simp [results, Try.results15, go_sem, z0, z1, z2, z3, z4]) rfl ?_
    have hgz : g ≠ w.heap.size + 1 := by have := kZ.lt; simp at hg; omega
    refine ⟨g, out, by have := kZ.lt; simp at hg; omega, ?_, hL, h36, ?_, ?_⟩
    · have hB4 := hB3.ext hx4
      repeat (first | (with_reducible exact hB4) | (with_reducible refine Bk.drew ?_) | (with_reducible refine Bk.far ?_ hgz _))
    · have hx5 : Ext w w4 := hxA.trans (Ext.trans (Ext.trans (by repeat (first | exact Ext.refl _ | assumption | refine Ext.setCell ?_ (by first | (simp; done) | (simp; omega)) _ | refine Ext.drewN ?_ _ | refine Ext.alloc ?_ _ | refine Ext.drew ?_ | refine Ext.trans ?_ (by assumption))) hx3) (Ext.trans (by repeat (first | exact Ext.refl _ | assumption | refine Ext.setCell ?_ (by first | (simp; done) | (simp; omega)) _ | refine Ext.drewN ?_ _ | refine Ext.alloc ?_ _ | refine Ext.drew ?_ | refine Ext.trans ?_ (by assumption))) hx4))
      clear hx3 hx4
      repeat (first | (with_reducible exact hx5) | (with_reducible refine Ext.setCell ?_ (by simp) _) | (with_reducible refine Ext.drew ?_))
    · rcases hrel with ⟨h1, rfl, rfl, rfl, rfl, h6, rfl⟩ | ⟨h1, rfl, rfl, rfl, rfl, h6, rfl⟩
      · exact .inl ⟨h1, by rw [h6]⟩
      · exact .inr ⟨h1, by rw [h6]⟩

/-- the error of Filled -/
def fillE (x y ww hh : Int) (l : List Nat) (s : Nat) : Int := if fieldE x y ww hh l ≠ 0 then fieldE x y ww hh l else slopeE s
set_option maxRecDepth 100000 in
set_option maxHeartbeats 3200000 in
theorem Filled_bad (x y ww hh : Int) (A : Option Addr) (n c slope : Nat) (l : List Nat) (w : World) (hl : l.length = n) (hV : Rd w A (flt l)) (hb : n ≤ 140737488351232) (hE : fillE x y ww hh l slope ≠ 0) :
    Calls Try.prog 15 #[.agg #[.int .i64 x, .int .i64 y, .int .i64 ww, .int .i64 hh, .slice A n c], .float .f32 slope] w fun e w' => e = .returned (.tuple #[.agg #[.int .i64 0, .int .i64 0, .int .i64 0, .int .i64 0, .slice none 0 0], .int .i64 (fillE x y ww hh l slope)]) ∧ Ext w w' := by
  have HC := fun (w : World) (h : Rd w A (flt l)) => hidA (check_any x y ww hh A n c l w hl h hb)
  have HS := fun (B : Option Addr) (w : World) (h : Rd w B (flt [slope])) => hidA (heights_any B 1 1 [slope] w rfl h (by omega))
  unfold fillE slopeE at hE ⊢
  clear hl hb
  generalize fieldE x y ww hh l = f1 at *
  generalize numE [slope] = f2 at *
  by_cases h1 : f1 = 0
  · subst h1
    rw [if_neg (by decide)] at hE ⊢
    by_cases h2 : f2 = 0
    · subst h2
      rw [if_neg (by decide)] at hE ⊢
      by_cases h3 : lt slope 0 = true ∨ gt slope 1149239296 = true
      · rw [if_pos h3]
        clear hE
        cases h4 : lt slope 0
        · have h5 : gt slope 1149239296 = true := by rcases h3 with h | h <;> simp_all
          have s4' : (FloatKind.f32.format.order slope 0 == some .lt) = false := h4
          have s5' : (FloatKind.f32.format.order slope 1149239296 == some .gt) = true := h5
          clear h3 h4 h5
          go_enter Try.func15, Try.ntmps15
          go_wp2_with (first | (go_at_call 80; refine ((HC _ (hV.ext (by repeat (first | exact Ext.refl _ | assumption | refine Ext.setCell ?_ (by first | (simp; done) | (simp; omega)) _ | refine Ext.drewN ?_ _ | refine Ext.alloc ?_ _ | refine Ext.drew ?_ | refine Ext.trans ?_ (by assumption))))).out).mono ?_; rintro e w1 ⟨rfl, hx1⟩; have kZ1 : Bk w1 (w.heap.size + 1) 26 #[.int .i64 0, .int .i64 0, .int .i64 0, .int .i64 0, .slice none 0 0] := (Bk.new' (by simp)).ext hx1; have z0 := kZ1.cell 0; have z1 := kZ1.cell 1; have z2 := kZ1.cell 2; have z3 := kZ1.cell 3; have z4 := kZ1.cell 4; have y0 := kZ1.frozen 0; have y1 := kZ1.frozen 1; have y2 := kZ1.frozen 2; have y3 := kZ1.frozen 3; have y4 := kZ1.frozen 4; have kl := kZ1.lt) | (go_at_call 81; refine ((HS _ _ (Rd.new rfl rfl)).out).mono ?_; rintro e w2 ⟨rfl, rfl⟩))
          refine bodyPost_ret (v := .tuple #[.agg #[.int .i64 0, .int .i64 0, .int .i64 0, .int .i64 0, .slice none 0 0], .int .i64 3]) (by simp [results, Try.results15, go_sem, z0, z1, z2, z3, z4, kl]) rfl ⟨rfl, ?_⟩
          (repeat (first | (with_reducible exact Ext.refl _) | (with_reducible assumption) | (with_reducible refine Ext.setCell ?_ (by first | (simp; done) | (simp; omega)) _) | (with_reducible refine Ext.drewN ?_ _) | (with_reducible refine Ext.alloc ?_ _) | (with_reducible refine Ext.drew ?_) | (with_reducible refine Ext.trans ?_ (by assumption))))
        · have s4' : (FloatKind.f32.format.order slope 0 == some .lt) = true := h4
          clear h3 h4
          go_enter Try.func15, Try.ntmps15
          go_wp2_with (first | (go_at_call 80; refine ((HC _ (hV.ext (by repeat (first | exact Ext.refl _ | assumption | refine Ext.setCell ?_ (by first | (simp; done) | (simp; omega)) _ | refine Ext.drewN ?_ _ | refine Ext.alloc ?_ _ | refine Ext.drew ?_ | refine Ext.trans ?_ (by assumption))))).out).mono ?_; rintro e w1 ⟨rfl, hx1⟩; have kZ1 : Bk w1 (w.heap.size + 1) 26 #[.int .i64 0, .int .i64 0, .int .i64 0, .int .i64 0, .slice none 0 0] := (Bk.new' (by simp)).ext hx1; have z0 := kZ1.cell 0; have z1 := kZ1.cell 1; have z2 := kZ1.cell 2; have z3 := kZ1.cell 3; have z4 := kZ1.cell 4; have y0 := kZ1.frozen 0; have y1 := kZ1.frozen 1; have y2 := kZ1.frozen 2; have y3 := kZ1.frozen 3; have y4 := kZ1.frozen 4; have kl := kZ1.lt) | (go_at_call 81; refine ((HS _ _ (Rd.new rfl rfl)).out).mono ?_; rintro e w2 ⟨rfl, rfl⟩))
          refine bodyPost_ret (v := .tuple #[.agg #[.int .i64 0, .int .i64 0, .int .i64 0, .int .i64 0, .slice none 0 0], .int .i64 3]) (by simp [results, Try.results15, go_sem, z0, z1, z2, z3, z4, kl]) rfl ⟨rfl, ?_⟩
          (repeat (first | (with_reducible exact Ext.refl _) | (with_reducible assumption) | (with_reducible refine Ext.setCell ?_ (by first | (simp; done) | (simp; omega)) _) | (with_reducible refine Ext.drewN ?_ _) | (with_reducible refine Ext.alloc ?_ _) | (with_reducible refine Ext.drew ?_) | (with_reducible refine Ext.trans ?_ (by assumption))))
      · exact absurd (if_neg h3) hE
    · have h2' : (f2 != 0) = true := by simpa using h2
      rw [if_pos h2]
      clear hE h2
      go_enter Try.func15, Try.ntmps15
      go_wp2_with (first | (go_at_call 80; refine ((HC _ (hV.ext (by repeat (first | exact Ext.refl _ | assumption | refine Ext.setCell ?_ (by first | (simp; done) | (simp; omega)) _ | refine Ext.drewN ?_ _ | refine Ext.alloc ?_ _ | refine Ext.drew ?_ | refine Ext.trans ?_ (by assumption))))).out).mono ?_; rintro e w1 ⟨rfl, hx1⟩; have kZ1 : Bk w1 (w.heap.size + 1) 26 #[.int .i64 0, .int .i64 0, .int .i64 0, .int .i64 0, .slice none 0 0] := (Bk.new' (by simp)).ext hx1; have z0 := kZ1.cell 0; have z1 := kZ1.cell 1; have z2 := kZ1.cell 2; have z3 := kZ1.cell 3; have z4 := kZ1.cell 4; have y0 := kZ1.frozen 0; have y1 := kZ1.frozen 1; have y2 := kZ1.frozen 2; have y3 := kZ1.frozen 3; have y4 := kZ1.frozen 4; have kl := kZ1.lt) | (go_at_call 81; refine ((HS _ _ (Rd.new rfl rfl)).out).mono ?_; rintro e w2 ⟨rfl, rfl⟩))
      refine bodyPost_ret (v := .tuple #[.agg #[.int .i64 0, .int .i64 0, .int .i64 0, .int .i64 0, .slice none 0 0], .int .i64 f2]) (by simp [results, Try.results15, go_sem, z0, z1, z2, z3, z4, kl]) rfl ⟨rfl, ?_⟩
      (repeat (first | (with_reducible exact Ext.refl _) | (with_reducible assumption) | (with_reducible refine Ext.setCell ?_ (by first | (simp; done) | (simp; omega)) _) | (with_reducible refine Ext.drewN ?_ _) | (with_reducible refine Ext.alloc ?_ _) | (with_reducible refine Ext.drew ?_) | (with_reducible refine Ext.trans ?_ (by assumption))))
  · have h1' : (f1 != 0) = true := by simpa using h1
    rw [if_pos h1]
    clear hE h1
    go_enter Try.func15, Try.ntmps15
    go_wp2_with (first | (go_at_call 80; refine ((HC _ (hV.ext (by repeat (first | exact Ext.refl _ | assumption | refine Ext.setCell ?_ (by first | (simp; done) | (simp; omega)) _ | refine Ext.drewN ?_ _ | refine Ext.alloc ?_ _ | refine Ext.drew ?_ | refine Ext.trans ?_ (by assumption))))).out).mono ?_; rintro e w1 ⟨rfl, hx1⟩; have kZ1 : Bk w1 (w.heap.size + 1) 26 #[.int .i64 0, .int .i64 0, .int .i64 0, .int .i64 0, .slice none 0 0] := (Bk.new' (by simp)).ext hx1; have z0 := kZ1.cell 0; have z1 := kZ1.cell 1; have z2 := kZ1.cell 2; have z3 := kZ1.cell 3; have z4 := kZ1.cell 4; have y0 := kZ1.frozen 0; have y1 := kZ1.frozen 1; have y2 := kZ1.frozen 2; have y3 := kZ1.frozen 3; have y4 := kZ1.frozen 4; have kl := kZ1.lt) | (go_at_call 81; refine ((HS _ _ (Rd.new rfl rfl)).out).mono ?_; rintro e w2 ⟨rfl, rfl⟩))
    refine bodyPost_ret (v := .tuple #[.agg #[.int .i64 0, .int .i64 0, .int .i64 0, .int .i64 0, .slice none 0 0], .int .i64 f1]) (by simp [results, Try.results15, go_sem, z0, z1, z2, z3, z4]) rfl ⟨rfl, ?_⟩
    (repeat (first | (with_reducible exact Ext.refl _) | (with_reducible assumption) | (with_reducible refine Ext.setCell ?_ (by first | (simp; done) | (simp; omega)) _) | (with_reducible refine Ext.drewN ?_ _) | (with_reducible refine Ext.alloc ?_ _) | (with_reducible refine Ext.drew ?_) | (with_reducible refine Ext.trans ?_ (by assumption))))

end Go.Proofs.Ytinohfgokpbcdaa
