/- Contract: the reference's BedOf, where the ground is filled or cut. -/
import Derived.Test.YtpgdinpckolfpaaBdAC
import Derived.Laws.AppendOwn
import Derived.Lib.SliceRun
namespace Go.Proofs.Ytpgdinpckolfpaa

/-- one step of a bed: the height of i by that of j and a drop -/
def fitX (up : Bool) (h : Nat → Nat) (i j d : Nat) : Nat → Nat :=
  if up = true then (if gt (fsub (h j) d) (h i) = true then updF h i (fsub (h j) d) else h)
  else (if lt (fadd (h j) d) (h i) = true then updF h i (fadd (h j) d) else h)
/-- forth -/
def fwdX (up : Bool) (ds h : Nat → Nat) : Nat → Nat → Nat
  | 0 => h
  | i + 1 => fitX up (fwdX up ds h i) (i + 1) i (ds i)
/-- back -/
def bwdX (up : Bool) (ds h : Nat → Nat) (m : Nat) : Nat → Nat → Nat
  | 0 => h
  | j + 1 => fitX up (bwdX up ds h m j) (m - 1 - j) (m - 1 - j + 1) (ds (m - 1 - j))
def bedX (up : Bool) (ds h : Nat → Nat) (m : Nat) : Nat → Nat := bwdX up ds (fwdX up ds h m) m m
def meanX (a b : Nat → Nat) (k : Nat) : Nat := fmul (fadd (a k) (b k)) 1056964608
/-- heights -/
def HtB (h : Nat → Nat) (n : Nat) : Prop := ∀ k, k < n → Bd 20 (h k)
/-- drops -/
def DrB (ds : Nat → Nat) (m : Nat) : Prop := ∀ k, k < m → Bd 16 (ds k) ∧ 0 ≤ valI (ds k)
theorem fsub_leV {K x y : Nat} (hx : Bd K x) (hy : Bd K y) (hK : K ≤ 120) (h : 0 ≤ valI y) : valI (fsub x y) ≤ valI x := by
  apply val_key_le.2
  rw [fsub_key hx hy hK, ← rkey_val (bd_Fin hx (by omega))]
  exact rkey_mono (by omega)
theorem HtB.upd {h : Nat → Nat} {n i x : Nat} (hh : HtB h n) (hx : Bd 20 x) : HtB (updF h i x) n := by
  intro k hk
  unfold updF
  split
  · exact hx
  · exact hh k hk
theorem between_bd {a b c : Nat} (ha : Bd 20 a) (hb : Bd 20 b) (h1 : valI a ≤ valI c) (h2 : valI c ≤ valI b) : Bd 20 c := by
  rw [bd_valI (by omega)] at ha hb ⊢
  generalize (2 : Nat) ^ (20 + 149) = P at *
  omega
theorem fit_bits {h : Nat → Nat} {n j d : Nat} (hh : HtB h n) (hj : j < n) (hd : Bd 16 d) :
    floatBits .sub .f32 (h j) d = some (fsub (h j) d) ∧ floatBits .add .f32 (h j) d = some (fadd (h j) d) := by
  have h1 := hh j hj
  have h2 : Bd 20 d := hd.mono (by omega)
  exact ⟨(fsub_ok h1 h2 (by omega)).1, (fadd_ok h1 h2 (by omega)).1⟩
theorem HtB.fit {up : Bool} {h : Nat → Nat} {n i j d : Nat} (hh : HtB h n) (hi : i < n) (hj : j < n) (hd : Bd 16 d) (h0 : 0 ≤ valI d) : HtB (fitX up h i j d) n := by
  have h1 := hh j hj
  have h2 : Bd 20 d := hd.mono (by omega)
  have h3 := hh i hi
  unfold fitX
  cases up
  · rw [if_neg (by decide)]
    split
    · rename_i hg
      obtain ⟨_, b⟩ := fadd_ok h1 h2 (by omega)
      rw [lt_val (bd_Fin b (by omega)) (bd_Fin h3 (by omega))] at hg
      have hg' := of_decide_eq_true hg
      exact hh.upd (between_bd h1 h3 (fadd_ge h1 h2 (by omega) h0) (by omega))
    · exact hh
  · rw [if_pos rfl]
    split
    · rename_i hg
      obtain ⟨_, b⟩ := fsub_ok h1 h2 (by omega)
      rw [gt_val (bd_Fin b (by omega)) (bd_Fin h3 (by omega))] at hg
      have hg' := of_decide_eq_true hg
      exact hh.upd (between_bd h3 h1 (by omega) (fsub_leV h1 h2 (by omega) h0))
    · exact hh
theorem HtB.fwd {up : Bool} {ds h : Nat → Nat} {m : Nat} (hh : HtB h (m + 1)) (hd : DrB ds m) : ∀ i, i ≤ m → HtB (fwdX up ds h i) (m + 1)
  | 0, _ => hh
  | i + 1, hi => (HtB.fwd hh hd i (by omega)).fit (by omega) (by omega) (hd i (by omega)).1 (hd i (by omega)).2
theorem HtB.bwd {up : Bool} {ds h : Nat → Nat} {m : Nat} (hh : HtB h (m + 1)) (hd : DrB ds m) : ∀ i, i ≤ m → HtB (bwdX up ds h m i) (m + 1)
  | 0, _ => hh
  | i + 1, hi => (HtB.bwd hh hd i (by omega)).fit (by omega) (by omega) (hd _ (by omega)).1 (hd _ (by omega)).2
theorem HtB.bed {up : Bool} {ds h : Nat → Nat} {m : Nat} (hh : HtB h (m + 1)) (hd : DrB ds m) : HtB (bedX up ds h m) (m + 1) := (hh.fwd hd m (Nat.le_refl _)).bwd hd m (Nat.le_refl _)
theorem mean_ok {a b : Nat → Nat} {n k : Nat} (ha : HtB a n) (hb : HtB b n) (hk : k < n) : floatBits .add .f32 (a k) (b k) = some (fadd (a k) (b k)) ∧ floatBits .mul .f32 (fadd (a k) (b k)) 1056964608 = some (meanX a b k) ∧ Bd 23 (meanX a b k) := by
  obtain ⟨h1, h2⟩ := fadd_ok (ha k hk) (hb k hk) (by omega)
  obtain ⟨h3, h4⟩ := fmul_ok h2 half_bd (by omega)
  exact ⟨h1, h3, h4⟩
end Go.Proofs.Ytpgdinpckolfpaa

namespace Go.Proofs.Ytpgdinpckolfpaa
open Go.RowKit
attribute [local go_sem ↓] Go.wp_at_zero Go.wp_at_succ
attribute [local go_sem] run_store_float

/-- a copy of a slice of singles lies in a block of its own -/
structure Cl (w : World) (g cap : Nat) (cur : Array Value) (N : Nat) (f : Nat → Nat) : Prop where
  b : Bk w g 27 cur
  n : N ≤ cap
  s : cur.size = cap
  c : ∀ k, k < N → cur[k]? = some (.float .f32 (f k))
theorem Cl.ext {w w' : World} {g cap N : Nat} {cur : Array Value} {f : Nat → Nat} (h : Cl w g cap cur N f) (hx : Ext w w') : Cl w' g cap cur N f := ⟨h.b.ext hx, h.n, h.s, h.c⟩
theorem Cl.cell {w : World} {g cap N k : Nat} {cur : Array Value} {f : Nat → Nat} (h : Cl w g cap cur N f) (hk : k < N) : w.cell? ⟨g, k, none⟩ = some (.float .f32 (f k)) := by rw [h.b.cell]; exact h.c k hk
theorem Cl.far {w : World} {g cap N : Nat} {cur : Array Value} {f : Nat → Nat} (h : Cl w g cap cur N f) {p : Addr} (hp : g ≠ p.block) (u : Value) : Cl (w.setCell p u) g cap cur N f := ⟨h.b.far hp u, h.n, h.s, h.c⟩
theorem Cl.put {w : World} {g cap N : Nat} {cur : Array Value} {f : Nat → Nat} (h : Cl w g cap cur N f) (k x : Nat) : Cl (w.setCell ⟨g, k, none⟩ (.float .f32 x)) g cap (cur.setIfInBounds k (.float .f32 x)) N (updF f k x) := by
  refine ⟨Bk.set h.b k _, h.n, by simp [h.s], fun j hj => ?_⟩
  have hjs : j < cur.size := by have := h.n; have := h.s; omega
  rw [Array.getElem?_setIfInBounds]
  unfold updF
  by_cases e : k = j
  · subst e
    rw [if_pos rfl, if_pos hjs, if_pos rfl]
  · rw [if_neg e, if_neg (fun q => e q.symm)]
    exact h.c j hj
theorem infoFl : (Try.prog.info? 27).map (fun i => (i.zero, i.size, i.bytes)) = some (some (.float .f32 0), 1, 4) := by kernel_rfl
set_option maxRecDepth 100000 in
set_option maxHeartbeats 3200000 in
theorem Clone_any (ad : Addr) (N c : Nat) (l : List Nat) (w : World) (hl : l.length = N) (hV : Rd w (some ad) (flt l)) (h1 : 1 ≤ N) (hb : N ≤ 262144) :
    Calls Try.prog 118 #[.slice (some ad) N c] w fun e w' => ∃ g cap cur, e = .returned (.slice (some ⟨g, 0, none⟩) N cap) ∧ w.heap.size ≤ g ∧ Cl w' g cap cur N (fun k => l.getD k 0) ∧ Ext w w' := by
  obtain ⟨i0, hi0, hz0, hz1, hz2⟩ := info_parts infoFl
  have q22 : ∀ (w : World) (a : Option Addr) (n c n' c' : Nat), (binOp .eql 24 (.slice a n c) (.slice none n' c')).run Try.prog w = .ok (.bool a.isNone) w := fun w a n c n' c' => Lib.run_eql_slice_nil w _ _ a n c n' c' Try.underlying24
  have Hl := hidA hl
  have HV := hidA hV
  clear hl hV
  go_enter Try.func118, Try.ntmps118
  go_wp2_with (at_builtin; refine wpList_append_own _ rfl _ _ 24 rfl w.heap.size 27 i0 (.float .f32 0) 1 4 Try.underlying24 hi0 hz0 hz1 hz2 rfl (by decide) _ _ _ rfl (World.ownsRow_made w #[] 0 (Nat.le_refl _) (Nat.zero_le _) rfl) ad N c (flt l) rfl ?qc1 ?qc2 ?qc3 ?qc4 ?qc5 ?qc6 ?_)
  case qc2 =>
    intro j u hj
    have hjl : j < (flt l).length := (List.getElem?_eq_some_iff.1 hj).1
    obtain ⟨ad', e, _, hcv⟩ := (HV.out.ext ((Ext.refl w).alloc (.cells #[] 27))).at (k := j) hjl
    cases e
    exact hcv j u hj
  case qc3 =>
    intro u hu
    simp [flt] at hu
    obtain ⟨x, _, rfl⟩ := hu
    rfl
  case qc4 => unfold maxLen; omega
  case qc5 => omega
  case qc6 => simp
  case qc1 => simp [flt, Hl.out]
  intro v' w1 hown hgrow hnil
  have hx : Ext w w1 := Ext.grown ((Ext.refl w).alloc _) hgrow (by intro k hk; simp [Value.ownBlock] at hk; omega)
  rcases hown.2 with ⟨_, h0⟩ | ⟨g, cap, cur, hv, hge, hblk, hle, hmax, hsz, htake⟩
  · omega
  · subst hv
    have hC : Cl w1 g cap cur N (fun k => l.getD k 0) := by
      refine ⟨hblk, by omega, by simpa using hsz, fun k hk => ?_⟩
      have hkl : k < l.length := by rw [Hl.out]; exact hk
      have e1 : (cur.toList.take (N * 1))[k]? = some (.float .f32 (l.getD k 0)) := by
        rw [htake, flt_get hkl]
        simp [List.getD_eq_getElem?_getD, hkl]
      rw [List.getElem?_take, if_pos (by omega)] at e1
      simpa using e1
    have HC := hidA hC
    clear hC hown hnil hblk htake hgrow
    go_wp2
    go_ret
    exact ⟨g, cap, cur, by simp, by omega, HC.out, hx⟩

/-- singles of the call's own, and nothing else of the world has changed -/
structure FX (w0 : World) (g cap N : Nat) (f : Nat → Nat) (w : World) : Prop where
  c : ∃ cur, Cl w g cap cur N f
  x : Ext w0 w
theorem FX.put {w0 w : World} {g cap N : Nat} {f : Nat → Nat} (h : FX w0 g cap N f w) (hg : w0.heap.size ≤ g) (k x : Nat) : FX w0 g cap N (updF f k x) (w.setCell ⟨g, k, none⟩ (.float .f32 x)) := by
  obtain ⟨cur, hc⟩ := h.c
  exact ⟨⟨_, hc.put k x⟩, h.x.setCell (p := ⟨g, k, none⟩) hg _⟩
theorem FX.step {w0 w w' : World} {g cap N : Nat} {f : Nat → Nat} (h : FX w0 g cap N f w) (hx : Ext w w') : FX w0 g cap N f w' := by
  obtain ⟨cur, hc⟩ := h.c
  exact ⟨⟨_, hc.ext hx⟩, h.x.trans hx⟩
theorem FX.cell {w0 w : World} {g cap N k : Nat} {f : Nat → Nat} (h : FX w0 g cap N f w) (hk : k < N) : w.cell? ⟨g, k, none⟩ = some (.float .f32 (f k)) := by
  obtain ⟨cur, hc⟩ := h.c
  exact hc.cell hk
theorem FX.frozen {w0 w : World} {g cap N : Nat} {f : Nat → Nat} (h : FX w0 g cap N f w) (k : Nat) : w.frozen? ⟨g, k, none⟩ = false := by
  obtain ⟨cur, hc⟩ := h.c
  exact hc.b.frozen k
theorem FX.rd {w0 w : World} {g cap N : Nat} {f : Nat → Nat} (h : FX w0 g cap N f w) : Rd w (some ⟨g, 0, none⟩) (flt ((List.range N).map f)) := by
  obtain ⟨cur, hc⟩ := h.c
  intro _
  refine ⟨_, rfl, hc.b.lt, fun j u hu => ?_⟩
  rw [lit_add]
  have hj : j < N := by
    have := (List.getElem?_eq_some_iff.1 hu).1
    simpa [flt] using this
  rw [hc.cell hj]
  simp [flt, hj] at hu
  rw [hu]
theorem FX.base {w0 w1 w : World} {g cap N : Nat} {f : Nat → Nat} (h : FX w1 g cap N f w) (hx : Ext w0 w1) : FX w0 g cap N f w := ⟨h.c, hx.trans h.x⟩
theorem FX.congr {w0 w : World} {g cap N : Nat} {f f' : Nat → Nat} (h : FX w0 g cap N f w) (e : ∀ k, k < N → f k = f' k) : FX w0 g cap N f' w := by
  obtain ⟨cur, hc⟩ := h.c
  exact ⟨⟨cur, hc.b, hc.n, hc.s, fun k hk => by rw [← e k hk]; exact hc.c k hk⟩, h.x⟩
/-- a row of the call's own as singles that are stored into -/
theorem OwnFl.fx {w0 w : World} {v : Value} {xs : List Nat} (h : OwnFl w w0.heap.size v xs) (hx : Ext w0 w) (hne : xs ≠ []) : ∃ g cap, v = .slice (some ⟨g, 0, none⟩) xs.length cap ∧ w0.heap.size ≤ g ∧ xs.length ≤ cap ∧ FX w0 g cap xs.length (fun k => xs.getD k 0) w := by
  rcases h.2 with ⟨_, h0⟩ | ⟨g, cap, cur, hv, hge, hblk, hle, hmax, hsz, htake⟩
  · exact absurd (List.eq_nil_of_length_eq_zero h0) hne
  · refine ⟨g, cap, hv, hge, hle, ⟨⟨cur, ⟨hblk, hle, by simpa using hsz, fun k hk => ?_⟩⟩, hx⟩⟩
    have e1 : (cur.toList.take (xs.length * 1))[k]? = some (.float .f32 (xs.getD k 0)) := by
      rw [htake, flt_get hk]
      simp [List.getD_eq_getElem?_getD, hk]
    rw [List.getElem?_take, if_pos (by omega)] at e1
    simpa using e1
end Go.Proofs.Ytpgdinpckolfpaa

namespace Go.Proofs.Ytpgdinpckolfpaa
open Go.RowKit
attribute [local go_sem ↓] Go.wp_at_zero Go.wp_at_succ
attribute [local go_sem] run_store_float

/-- what the closure of BedOf holds: the grade, the kind, and the heights -/
structure FC (w0 w : World) (gb hb pb g cap n most : Nat) (how : Int) (f : Nat → Nat) : Prop where
  kg : Bk w gb 27 #[.float .f32 most]
  kh : Bk w hb 3 #[.int .i64 how]
  kp : Bk w pb 24 #[.slice (some ⟨g, 0, none⟩) n cap]
  kf : FX w0 g cap n f w
  b0 : w0.heap.size ≤ g
  ne : gb ≠ g
theorem FX.bk {w0 w : World} {g cap N : Nat} {f : Nat → Nat} (h : FX w0 g cap N f w) : ∃ cur, Bk w g 27 cur := by
  obtain ⟨cur, hc⟩ := h.c
  exact ⟨cur, hc.b⟩
theorem FC.step {w0 w w' : World} {gb hb pb g cap n most : Nat} {how : Int} {f : Nat → Nat} (h : FC w0 w gb hb pb g cap n most how f) (hx : Ext w w') : FC w0 w' gb hb pb g cap n most how f :=
  ⟨h.kg.ext hx, h.kh.ext hx, h.kp.ext hx, h.kf.step hx, h.b0, h.ne⟩
theorem FC.put {w0 w : World} {gb hb pb g cap n most : Nat} {how : Int} {f : Nat → Nat} (h : FC w0 w gb hb pb g cap n most how f) (k x : Nat) : FC w0 (w.setCell ⟨g, k, none⟩ (.float .f32 x)) gb hb pb g cap n most how (updF f k x) := by
  obtain ⟨cur, kc⟩ := h.kf.bk
  exact ⟨h.kg.far h.ne _, h.kh.far (Bk.ne h.kh kc (by decide)) _, h.kp.far (Bk.ne h.kp kc (by decide)) _, h.kf.put h.b0 k x, h.b0, h.ne⟩

set_option maxRecDepth 100000 in
set_option maxHeartbeats 6400000 in
theorem BedOf1_true (w0 w : World) (gb hb pb g cap n most : Nat) (f : Nat → Nat) (i j ln : Nat) (hF : FC w0 w gb hb pb g cap n most 1 f) (hi : i < n) (hj : j < n) (hh : HtB f n) (hM : floatBits .mul .f32 most ln = some (fmul most ln)) (hd : Bd 16 (fmul most ln)) :
    Calls Try.prog 93 #[.int .i64 i, .int .i64 j, .float .f32 ln, .pointer (some ⟨gb, 0, none⟩), .pointer (some ⟨hb, 0, none⟩), .pointer (some ⟨pb, 0, none⟩)] w fun e w' => e = .returned (.tuple #[]) ∧ FC w0 w' gb hb pb g cap n most 1 (fitX true f i j (fmul most ln)) := by
  have g0 := hF.kg.cell 0
  have h0 := hF.kh.cell 0
  have p0 := hF.kp.cell 0
  have c1 := hF.kf.cell hj
  have c2 := hF.kf.cell hi
  have z2 := hF.kf.frozen i
  have hft := (fit_bits hh hj hd).1
  have hput := hF.put i (fsub (f j) (fmul most ln))
  have hrm := fun (w : World) => run_float_arith (P := Try.prog) w .mul 27 .f32 _ _ _ hM
  have hrun := fun (w : World) => run_float_arith (P := Try.prog) w .sub 27 .f32 _ _ _ hft
  have HN : fitX true f i j (fmul most ln) = fitX true f i j (fmul most ln) := rfl
  conv at HN => rhs; unfold fitX; rw [if_pos rfl]
  rw [HN]
  clear HN
  have i0 : (0 : Int) ≤ i := by omega
  have i1 : (i : Int) < n := by omega
  have i2 : (0 : Int) ≤ j := by omega
  have i3 : (j : Int) < n := by omega
  have HF := hidA hF
  have HPut := hidA hput
  have h0' := hput.kh.cell 0
  clear hF hput hh hd hi hj hft hM
  generalize fsub (f j) (fmul most ln) = x at *
  generalize fmul most ln = dd at *
  go_enter Try.func93, Try.ntmps93
  cases hq : gt x (f i)
  · have hq' : (FloatKind.f32.format.order x (f i) == some .gt) = false := hq
    rw [if_neg (by decide)]
    clear HPut hq
    generalize f i = b at *
    generalize f j = a at *
    go_upto_region 1 with fail
    go_region
    go_upto_region 3 with fail
    go_region
    go_wp2
    refine bodyPost_end (results_none Try.results93 _ _ _) rfl ?_
    exact ⟨rfl, HF.out.step (by repeat (first | exact Ext.refl _ | assumption | refine Ext.setCell ?_ (by first | (simp; done) | (simp; omega)) _ | refine Ext.drewN ?_ _ | refine Ext.alloc ?_ _ | refine Ext.drew ?_ | refine Ext.trans ?_ (by assumption)))⟩
  · have hq' : (FloatKind.f32.format.order x (f i) == some .gt) = true := hq
    rw [if_pos rfl]
    clear HF hq
    generalize f i = b at *
    generalize f j = a at *
    go_upto_region 1 with fail
    go_region
    go_upto_region 2 with fail
    go_region
    go_upto_region 3 with fail
    go_region
    go_wp2
    refine bodyPost_end (results_none Try.results93 _ _ _) rfl ?_
    exact ⟨rfl, HPut.out.step (by repeat (first | exact Ext.refl _ | assumption | refine Ext.setCell ?_ (by first | (simp; done) | (simp; omega)) _ | refine Ext.drewN ?_ _ | refine Ext.alloc ?_ _ | refine Ext.drew ?_ | refine Ext.trans ?_ (by assumption)))⟩

set_option maxRecDepth 100000 in
set_option maxHeartbeats 6400000 in
theorem BedOf1_false (w0 w : World) (gb hb pb g cap n most : Nat) (f : Nat → Nat) (i j ln : Nat) (hF : FC w0 w gb hb pb g cap n most 2 f) (hi : i < n) (hj : j < n) (hh : HtB f n) (hM : floatBits .mul .f32 most ln = some (fmul most ln)) (hd : Bd 16 (fmul most ln)) :
    Calls Try.prog 93 #[.int .i64 i, .int .i64 j, .float .f32 ln, .pointer (some ⟨gb, 0, none⟩), .pointer (some ⟨hb, 0, none⟩), .pointer (some ⟨pb, 0, none⟩)] w fun e w' => e = .returned (.tuple #[]) ∧ FC w0 w' gb hb pb g cap n most 2 (fitX false f i j (fmul most ln)) := by
  have g0 := hF.kg.cell 0
  have h0 := hF.kh.cell 0
  have p0 := hF.kp.cell 0
  have c1 := hF.kf.cell hj
  have c2 := hF.kf.cell hi
  have z2 := hF.kf.frozen i
  have hft := (fit_bits hh hj hd).2
  have hput := hF.put i (fadd (f j) (fmul most ln))
  have hrm := fun (w : World) => run_float_arith (P := Try.prog) w .mul 27 .f32 _ _ _ hM
  have hrun := fun (w : World) => run_float_arith (P := Try.prog) w .add 27 .f32 _ _ _ hft
  have HN : fitX false f i j (fmul most ln) = fitX false f i j (fmul most ln) := rfl
  conv at HN => rhs; unfold fitX; rw [if_neg (by decide)]
  rw [HN]
  clear HN
  have i0 : (0 : Int) ≤ i := by omega
  have i1 : (i : Int) < n := by omega
  have i2 : (0 : Int) ≤ j := by omega
  have i3 : (j : Int) < n := by omega
  have HF := hidA hF
  have HPut := hidA hput
  have h0' := hput.kh.cell 0
  clear hF hput hh hd hi hj hft hM
  generalize fadd (f j) (fmul most ln) = x at *
  generalize fmul most ln = dd at *
  go_enter Try.func93, Try.ntmps93
  cases hq : lt x (f i)
  · have hq' : (FloatKind.f32.format.order x (f i) == some .lt) = false := hq
    rw [if_neg (by decide)]
    clear HPut hq
    generalize f i = b at *
    generalize f j = a at *
    go_upto_region 1 with fail
    go_region
    go_upto_region 3 with fail
    go_region
    go_wp2
    refine bodyPost_end (results_none Try.results93 _ _ _) rfl ?_
    exact ⟨rfl, HF.out.step (by repeat (first | exact Ext.refl _ | assumption | refine Ext.setCell ?_ (by first | (simp; done) | (simp; omega)) _ | refine Ext.drewN ?_ _ | refine Ext.alloc ?_ _ | refine Ext.drew ?_ | refine Ext.trans ?_ (by assumption)))⟩
  · have hq' : (FloatKind.f32.format.order x (f i) == some .lt) = true := hq
    rw [if_pos rfl]
    clear HF hq
    generalize f i = b at *
    generalize f j = a at *
    go_upto_region 1 with fail
    go_region
    go_upto_region 3 with fail
    go_region
    go_upto_region 4 with fail
    go_region
    go_wp2
    refine bodyPost_end (results_none Try.results93 _ _ _) rfl ?_
    exact ⟨rfl, HPut.out.step (by repeat (first | exact Ext.refl _ | assumption | refine Ext.setCell ?_ (by first | (simp; done) | (simp; omega)) _ | refine Ext.drewN ?_ _ | refine Ext.alloc ?_ _ | refine Ext.drew ?_ | refine Ext.trans ?_ (by assumption)))⟩
end Go.Proofs.Ytpgdinpckolfpaa

namespace Go.Proofs.Ytpgdinpckolfpaa
open Go.RowKit
attribute [local go_sem ↓] Go.wp_at_zero Go.wp_at_succ
attribute [local go_sem] run_store_float

/-- the drop of step i + 1 of a way -/
def drpX (most : Nat) (l : List (Int × Int)) (i : Nat) : Nat := fmul most (lenR (lpo l (i + 1)).1 (lpo l (i + 1)).2)
theorem drp_ok {bad : Int × Int → Bool} {l : List (Int × Int)} {n most : Nat} (hok : WayOk bad l) (hn : l.length = n) (hM : Bd 10 most) (hM0 : 0 ≤ valI most) :
    DrB (drpX most l) (n - 1) ∧ ∀ i, i + 1 < n → floatBits .mul .f32 most (lenR (lpo l (i + 1)).1 (lpo l (i + 1)).2) = some (drpX most l i) := by
  have key : ∀ i, i + 1 < n → floatBits .mul .f32 most (lenR (lpo l (i + 1)).1 (lpo l (i + 1)).2) = some (drpX most l i) ∧ Bd 16 (drpX most l i) ∧ 0 ≤ valI (drpX most l i) := fun i hi => by
    obtain ⟨_, _, m1, m2⟩ := hok.st (i + 1) (by omega) (by omega)
    obtain ⟨_, l2, _⟩ := len_ok (d := (lpo l (i + 1)).1) m1 m2
    have l4 := len_val (d := (lpo l (i + 1)).1) m1 m2
    obtain ⟨a1, a2⟩ := fmul_ok hM l2 (by omega)
    have h9 : (0 : Int) ≤ 2 ^ 149 := by decide
    exact ⟨a1, a2, mul_nonneg2 hM l2 (by omega) (by omega) hM0 (Int.le_trans h9 l4)⟩
  exact ⟨fun k hk => (key k (by omega)).2, fun i hi => (key i hi).1⟩
theorem hgt_way {X Y : Int} {Wn Hn N n : Nat} {lf : List Nat} {l : List (Int × Int)} (hN : N = Wn * Hn) (hh : ∀ j, j < N → Bd 20 (lf.getD j 0)) (hok : WayOk (outP X Y Wn Hn) l) (hn : l.length = n) : HtB (hgtY lf X Y Wn l) n :=
  fun i h => hh _ (by rw [hN]; exact (kOf_in (outP_in (hok.ok i (by omega)))).1)
theorem bwdX_at' {up : Bool} {ds h : Nat → Nat} {m i : Nat} (hi : i < m) : bwdX up ds h m (m - i) = fitX up (bwdX up ds h m (m - (i + 1))) i (i + 1) (ds i) := by
  have e : m - i = m - (i + 1) + 1 := by omega
  rw [e]
  show fitX up _ (m - 1 - (m - (i + 1))) (m - 1 - (m - (i + 1)) + 1) (ds (m - 1 - (m - (i + 1)))) = _
  have e2 : m - 1 - (m - (i + 1)) = i := by omega
  rw [e2]
theorem vlL_get (lf : List Nat) (X Y : Int) (Wn : Nat) (l : List (Int × Int)) : ∀ (m i : Nat), i < m → (vlL lf X Y Wn l m).getD i 0 = hgtY lf X Y Wn l i
  | m + 1, i, h => by
    rw [vlL]
    by_cases e : i = m
    · subst e
      simp [List.getD_eq_getElem?_getD, vlL_length]
    · have ih := vlL_get lf X Y Wn l m i (by omega)
      rw [← ih]
      simp only [List.getD_eq_getElem?_getD]
      rw [List.getElem?_append_left (by rw [vlL_length]; omega)]
theorem nxt_e {k n : Nat} (h : k + 1 < n) : n - (intOf (.int .i64 ((k : Int) + 1 + 1))).toNat < n - (intOf (.int .i64 ((k : Int) + 1))).toNat := by
  simp [intOf]
  omega
theorem nxt_f {i : Nat} : (intOf (.int .i64 ((i : Int) - 1)) + 1).toNat < (intOf (.int .i64 ((i : Int))) + 1).toNat := by
  simp [intOf]

set_option maxRecDepth 100000 in
set_option maxHeartbeats 6400000 in
theorem BedOf_true (X Y : Int) (Wn Hn : Nat) (A : Option Addr) (N c : Nat) (lf : List Nat) (B : Option Addr) (n d : Nat) (l : List (Int × Int)) (most : Nat) (w : World) (hr : Reg X Y Wn Hn) (hN : N = Wn * Hn) (hlf : lf.length = N) (hh : ∀ j, j < N → Bd 20 (lf.getD j 0)) (hV : Rd w A (flt lf)) (hn : l.length = n) (hP : Rd w B (ptv l)) (hok : WayOk (outP X Y Wn Hn) l) (hM : Bd 10 most) (hM0 : 0 ≤ valI most) :
    Calls Try.prog 53 #[.agg #[.int .i64 X, .int .i64 Y, .int .i64 (Wn : Int), .int .i64 (Hn : Int), .slice A N c], .slice B n d, .int .i64 1, .float .f32 most] w fun e w' => ∃ g cap, e = .returned (.slice (some ⟨g, 0, none⟩) n cap) ∧ w.heap.size ≤ g ∧ n ≤ cap ∧ FX w g cap n (bedX true (drpX most l) (hgtY lf X Y Wn l) (n - 1)) w' := by
  have hn6 : n ≤ 65536 := by have := hok.le; omega
  have hn1 : 1 ≤ n := by have := hok.pos; omega
  obtain ⟨hdr, hmu⟩ := drp_ok hok hn hM hM0
  have hH := hgt_way hN hh hok hn
  have HLn := fun (w' : World) (h : Ext w w') => hidA (LengthsR_any (fun p hp => outP_bd hr hp) B n d l w' hn (hP.ext h) hok)
  have HVa := fun (w' : World) (h : Ext w w') => hidA (Values_any X Y Wn Hn A N c lf B n d l w' hr hN hlf (hV.ext h) hn (hP.ext h) hok)
  have Hf := hidA (fun i (h : i ≤ n - 1) => HtB.fwd (up := true) (m := n - 1) (h := hgtY lf X Y Wn l) (by rw [show n - 1 + 1 = n by omega]; exact hH) hdr i h)
  have Hb := hidA (fun i (h : i ≤ n - 1) => HtB.bwd (up := true) (m := n - 1) (HtB.fwd (up := true) (m := n - 1) (ds := drpX most l) (h := hgtY lf X Y Wn l) (by rw [show n - 1 + 1 = n by omega]; exact hH) hdr (n - 1) (Nat.le_refl _)) hdr i h)
  rw [show n - 1 + 1 = n by omega] at Hf Hb
  have Hd := hidA hdr
  have Hmu := hidA hmu
  clear hr hN hlf hh hV hn hP hok hM hM0 hdr hmu hH
  go_enter Try.func53, Try.ntmps53
  go_upto_region 1 with fail
  obtain ⟨w0, hw0⟩ : ∃ w0, w0 = ((w.alloc (.cells #[.int .i64 X, .int .i64 Y, .int .i64 (Wn : Int), .int .i64 (Hn : Int), .slice A N c] 26)).alloc (.cells #[.int .i64 1] 3)).alloc (.cells #[.float .f32 most] 27) := ⟨_, rfl⟩
  have kF : Bk w0 w.heap.size 26 #[.int .i64 X, .int .i64 Y, .int .i64 (Wn : Int), .int .i64 (Hn : Int), .slice A N c] := by rw [hw0]; exact ((Bk.new' rfl).alloc _).alloc _
  have kH : Bk w0 (w.heap.size + 1) 3 #[.int .i64 1] := by rw [hw0]; exact (Bk.new' (by simp)).alloc _
  have kG : Bk w0 (w.heap.size + 1 + 1) 27 #[.float .f32 most] := by rw [hw0]; exact Bk.new' (by simp)
  have hx0 : Ext w w0 := by rw [hw0]; exact (((Ext.refl w).alloc _).alloc _).alloc _
  rw [← hw0]
  clear hw0
  generalize w.heap.size + 1 + 1 = gb at *
  generalize w.heap.size + 1 = hb at *
  generalize hfe : w.heap.size = hf at kF ⊢
  have Hfe := hidA hfe
  clear hfe
  go_upto_region 2 with (go_at_call 51; refine ((HLn _ hx0).out).mono ?_; rintro e w1 ⟨vl, rfl, hOl, hx1⟩; obtain ⟨AL, capL, rfl, hRl⟩ := hOl.any; rw [lnL_length])
  have kF1 := kF.ext hx1
  have kH1 := kH.ext hx1
  have kG1 := kG.ext hx1
  have hxb := hx0.trans hx1
  clear kF kH kG HLn hx0 hx1 hOl
  have h0 := kH1.cell 0
  have f0 := kF1.cell 0
  have f1 := kF1.cell 1
  have f2 := kF1.cell 2
  have f3 := kF1.cell 3
  have f4 := kF1.cell 4
  go_upto_region 11 with (go_at_call 50; refine ((HVa _ hxb).out).mono ?_; rintro e w2 ⟨vh, rfl, hOh, hx2⟩; obtain ⟨g, cap, rfl, hg, hcap, hFX⟩ := hOh.fx hx2 (by intro e; have := congrArg List.length e; rw [vlL_length] at this; simp at this; omega); rw [vlL_length] at hcap hFX ⊢)
  have hgs := hxb.size
  have hgl := kG1.lt
  have hF2 : FX w1 g cap n (hgtY lf X Y Wn l) w2 := hFX.congr (fun k hk => vlL_get lf X Y Wn l n k hk)
  have hC3 : FC w1 (w2.alloc (.cells #[.slice (some ⟨g, 0, none⟩) n cap] 24)) gb hb w2.heap.size g cap n most 1 (hgtY lf X Y Wn l) :=
    ⟨(kG1.ext hx2).alloc _, (kH1.ext hx2).alloc _, Bk.new' rfl, hF2.step ((Ext.refl w2).alloc _), by omega, by omega⟩
  have HRl := hidA hRl
  have Hxb := hidA hxb
  have Hgg := hidA (show w.heap.size ≤ g by omega)
  clear f0 f1 f2 f3 f4 h0 kF1 kH1 kG1 hFX hF2 hx2 hRl HVa hg hgs hgl hxb
  generalize w2.alloc (.cells #[.slice (some ⟨g, 0, none⟩) n cap] 24) = w3 at *
  generalize w2.heap.size = pb at *
  have Hcap := hidA hcap
  clear hcap
  go_upto_region 13 with fail
  go_loopw [15] (fun s15 wr => ∃ i : Nat, i ≤ n - 1 ∧ s15 = .int .i64 ((i : Int) + 1) ∧ FC w1 wr gb hb pb g cap n most 1 (fwdX true (drpX most l) (hgtY lf X Y Wn l) i)) (fun s15 _ => n - (intOf s15).toNat)
  case atStart => exact ⟨0, Nat.zero_le _, rfl, hC3⟩
  case round =>
    clear hC3
    obtain ⟨i, hi, rfl, hC⟩ := hrel
    by_cases him : i < n - 1
    · have Him := hidA him
      obtain ⟨adL, rfl, _, hcv⟩ := (HRl.out.ext hC.kf.x).at (k := i) (by simp [flt, lnL_length]; omega)
      have v1 := hcv i _ (flt_get (l := lnL l (n - 1)) (by rw [lnL_length]; omega))
      have hge := lnL_get l (n - 1) i him
      have hev : (lnL l (n - 1))[i]'(by rw [lnL_length]; omega) = lenR (lpo l (i + 1)).1 (lpo l (i + 1)).2 := by
        rw [← hge]
        simp [List.getD_eq_getElem?_getD, show i < (lnL l (n - 1)).length by rw [lnL_length]; omega]
      rw [hev] at v1
      have p0 := hC.kp.cell 0
      have hd := Hd.out i him
      have HNx := hidA (show fwdX true (drpX most l) (hgtY lf X Y Wn l) (i + 1) = fitX true (fwdX true (drpX most l) (hgtY lf X Y Wn l) i) (i + 1) i (drpX most l i) from rfl)
      have HB := hidA (BedOf1_true w1 wr gb hb pb g cap n most _ (i + 1) i (lenR (lpo l (i + 1)).1 (lpo l (i + 1)).2) hC (by omega) (by omega) (Hf.out i hi) (Hmu.out i (by omega)) hd.1)
      rw [show ((i + 1 : Nat) : Int) = (i : Int) + 1 from rfl] at HB
      rw [show fmul most (lenR (lpo l (i + 1)).1 (lpo l (i + 1)).2) = drpX most l i from rfl, ← HNx.out] at HB
      have i0 : (0 : Int) ≤ i := by omega
      have i1 : (i : Int) < ((n - 1 : Nat) : Int) := by omega
      have i2 : (i : Int) + 1 < n := by omega
      have i5 : (i : Int) + 1 ≤ 65536 := by omega
      have iw : IntKind.i64.wrap ((i : Int) + 1 + 1) = (i : Int) + 1 + 1 := IntWalk.i64_in _ ⟨by omega, by omega⟩
      clear hcv hge hev hd hC hi him
      generalize lenR (lpo l (i + 1)).1 (lpo l (i + 1)).2 = ln at *
      go_wp2_with (go_at_call 93; refine (HB.out).mono ?_; rintro e w4 ⟨rfl, hC4⟩)
      have HC4 := hidA hC4
      clear hC4
      go_wp2
      go_roundw
      case rel => exact ⟨i + 1, Him.out, (by first | rfl | go_num), HC4.out⟩
      case measure => exact nxt_e (by have := Him.out; omega)
    · obtain rfl : i = n - 1 := by omega
      have hC5 : FC w1 wr gb hb pb g cap n most 1 (bwdX true (drpX most l) (fwdX true (drpX most l) (hgtY lf X Y Wn l) (n - 1)) (n - 1) (n - 1 - (n - 1))) := by rw [Nat.sub_self]; exact hC
      have p0 := hC.kp.cell 0
      have iw : IntKind.i64.wrap ((n : Int) - 2) = (n : Int) - 2 := IntWalk.i64_in _ ⟨by omega, by omega⟩
      have ir : (n : Int) - 2 = ((n - 1 : Nat) : Int) - 1 := by omega
      have Hn1 := hidA (show 1 ≤ n from hn1)
      clear hC hi him
      go_upto_region 17 with fail
      clear p0 iw ir
      go_loopw [16] (fun s16 wr => ∃ t : Nat, t ≤ n - 1 ∧ s16 = .int .i64 ((t : Int) - 1) ∧ FC w1 wr gb hb pb g cap n most 1 (bwdX true (drpX most l) (fwdX true (drpX most l) (hgtY lf X Y Wn l) (n - 1)) (n - 1) (n - 1 - t))) (fun s16 _ => (intOf s16 + 1).toNat)
      case atStart => exact ⟨n - 1, Nat.le_refl _, rfl, hC5⟩
      case round =>
        clear hC5
        obtain ⟨t, ht, rfl, hC⟩ := hrel
        cases t with
        | zero =>
          rw [Nat.sub_zero] at hC
          have p0 := hC.kp.cell 0
          have HC := hidA hC
          clear hC ht
          go_wp2
          go_ret
          exact ⟨g, cap, rfl, Hgg.out, Hcap.out, HC.out.kf.base Hxb.out⟩
        | succ k =>
          have hk : k < n - 1 := by omega
          have Hk := hidA hk
          have ek : (((k + 1 : Nat) : Int) - 1) = (k : Int) := by omega
          rw [ek]
          obtain ⟨adL, rfl, _, hcv⟩ := (HRl.out.ext hC.kf.x).at (k := k) (by simp [flt, lnL_length]; omega)
          have v1 := hcv k _ (flt_get (l := lnL l (n - 1)) (by rw [lnL_length]; omega))
          have hge := lnL_get l (n - 1) k hk
          have hev : (lnL l (n - 1))[k]'(by rw [lnL_length]; omega) = lenR (lpo l (k + 1)).1 (lpo l (k + 1)).2 := by
            rw [← hge]
            simp [List.getD_eq_getElem?_getD, show k < (lnL l (n - 1)).length by rw [lnL_length]; omega]
          rw [hev] at v1
          have hd := Hd.out k hk
          have HNx := hidA (bwdX_at' (up := true) (ds := drpX most l) (h := fwdX true (drpX most l) (hgtY lf X Y Wn l) (n - 1)) hk)
          have HB := hidA (BedOf1_true w1 wr gb hb pb g cap n most _ k (k + 1) (lenR (lpo l (k + 1)).1 (lpo l (k + 1)).2) hC (by omega) (by omega) (Hb.out (n - 1 - (k + 1)) (by omega)) (Hmu.out k (by omega)) hd.1)
          rw [show ((k + 1 : Nat) : Int) = (k : Int) + 1 from rfl] at HB
          rw [show fmul most (lenR (lpo l (k + 1)).1 (lpo l (k + 1)).2) = drpX most l k from rfl, ← HNx.out] at HB
          have i0 : (0 : Int) ≤ k := by omega
          have i1 : (k : Int) < ((n - 1 : Nat) : Int) := by omega
          have i2 : (k : Int) + 1 < n := by omega
          have i3 : (k : Int) ≤ 65536 := by omega
          clear hcv hge hev hd hC ht hk ek HNx
          generalize lenR (lpo l (k + 1)).1 (lpo l (k + 1)).2 = ln at *
          go_wp2_with (go_at_call 93; refine (HB.out).mono ?_; rintro e w4 ⟨rfl, hC4⟩)
          have HC4 := hidA hC4
          clear hC4
          go_wp2
          go_roundw
          case rel => exact ⟨k, Nat.le_of_lt Hk.out, (by first | rfl | go_num), HC4.out⟩
          case measure => exact nxt_f

set_option maxRecDepth 100000 in
set_option maxHeartbeats 6400000 in
theorem BedOf_false (X Y : Int) (Wn Hn : Nat) (A : Option Addr) (N c : Nat) (lf : List Nat) (B : Option Addr) (n d : Nat) (l : List (Int × Int)) (most : Nat) (w : World) (hr : Reg X Y Wn Hn) (hN : N = Wn * Hn) (hlf : lf.length = N) (hh : ∀ j, j < N → Bd 20 (lf.getD j 0)) (hV : Rd w A (flt lf)) (hn : l.length = n) (hP : Rd w B (ptv l)) (hok : WayOk (outP X Y Wn Hn) l) (hM : Bd 10 most) (hM0 : 0 ≤ valI most) :
    Calls Try.prog 53 #[.agg #[.int .i64 X, .int .i64 Y, .int .i64 (Wn : Int), .int .i64 (Hn : Int), .slice A N c], .slice B n d, .int .i64 2, .float .f32 most] w fun e w' => ∃ g cap, e = .returned (.slice (some ⟨g, 0, none⟩) n cap) ∧ w.heap.size ≤ g ∧ n ≤ cap ∧ FX w g cap n (bedX false (drpX most l) (hgtY lf X Y Wn l) (n - 1)) w' := by
  have hn6 : n ≤ 65536 := by have := hok.le; omega
  have hn1 : 1 ≤ n := by have := hok.pos; omega
  obtain ⟨hdr, hmu⟩ := drp_ok hok hn hM hM0
  have hH := hgt_way hN hh hok hn
  have HLn := fun (w' : World) (h : Ext w w') => hidA (LengthsR_any (fun p hp => outP_bd hr hp) B n d l w' hn (hP.ext h) hok)
  have HVa := fun (w' : World) (h : Ext w w') => hidA (Values_any X Y Wn Hn A N c lf B n d l w' hr hN hlf (hV.ext h) hn (hP.ext h) hok)
  have Hf := hidA (fun i (h : i ≤ n - 1) => HtB.fwd (up := false) (m := n - 1) (h := hgtY lf X Y Wn l) (by rw [show n - 1 + 1 = n by omega]; exact hH) hdr i h)
  have Hb := hidA (fun i (h : i ≤ n - 1) => HtB.bwd (up := false) (m := n - 1) (HtB.fwd (up := false) (m := n - 1) (ds := drpX most l) (h := hgtY lf X Y Wn l) (by rw [show n - 1 + 1 = n by omega]; exact hH) hdr (n - 1) (Nat.le_refl _)) hdr i h)
  rw [show n - 1 + 1 = n by omega] at Hf Hb
  have Hd := hidA hdr
  have Hmu := hidA hmu
  clear hr hN hlf hh hV hn hP hok hM hM0 hdr hmu hH
  go_enter Try.func53, Try.ntmps53
  go_upto_region 1 with fail
  obtain ⟨w0, hw0⟩ : ∃ w0, w0 = ((w.alloc (.cells #[.int .i64 X, .int .i64 Y, .int .i64 (Wn : Int), .int .i64 (Hn : Int), .slice A N c] 26)).alloc (.cells #[.int .i64 2] 3)).alloc (.cells #[.float .f32 most] 27) := ⟨_, rfl⟩
  have kF : Bk w0 w.heap.size 26 #[.int .i64 X, .int .i64 Y, .int .i64 (Wn : Int), .int .i64 (Hn : Int), .slice A N c] := by rw [hw0]; exact ((Bk.new' rfl).alloc _).alloc _
  have kH : Bk w0 (w.heap.size + 1) 3 #[.int .i64 2] := by rw [hw0]; exact (Bk.new' (by simp)).alloc _
  have kG : Bk w0 (w.heap.size + 1 + 1) 27 #[.float .f32 most] := by rw [hw0]; exact Bk.new' (by simp)
  have hx0 : Ext w w0 := by rw [hw0]; exact (((Ext.refl w).alloc _).alloc _).alloc _
  rw [← hw0]
  clear hw0
  generalize w.heap.size + 1 + 1 = gb at *
  generalize w.heap.size + 1 = hb at *
  generalize hfe : w.heap.size = hf at kF ⊢
  have Hfe := hidA hfe
  clear hfe
  go_upto_region 2 with (go_at_call 51; refine ((HLn _ hx0).out).mono ?_; rintro e w1 ⟨vl, rfl, hOl, hx1⟩; obtain ⟨AL, capL, rfl, hRl⟩ := hOl.any; rw [lnL_length])
  have kF1 := kF.ext hx1
  have kH1 := kH.ext hx1
  have kG1 := kG.ext hx1
  have hxb := hx0.trans hx1
  clear kF kH kG HLn hx0 hx1 hOl
  have h0 := kH1.cell 0
  have f0 := kF1.cell 0
  have f1 := kF1.cell 1
  have f2 := kF1.cell 2
  have f3 := kF1.cell 3
  have f4 := kF1.cell 4
  go_upto_region 11 with (go_at_call 50; refine ((HVa _ hxb).out).mono ?_; rintro e w2 ⟨vh, rfl, hOh, hx2⟩; obtain ⟨g, cap, rfl, hg, hcap, hFX⟩ := hOh.fx hx2 (by intro e; have := congrArg List.length e; rw [vlL_length] at this; simp at this; omega); rw [vlL_length] at hcap hFX ⊢)
  have hgs := hxb.size
  have hgl := kG1.lt
  have hF2 : FX w1 g cap n (hgtY lf X Y Wn l) w2 := hFX.congr (fun k hk => vlL_get lf X Y Wn l n k hk)
  have hC3 : FC w1 (w2.alloc (.cells #[.slice (some ⟨g, 0, none⟩) n cap] 24)) gb hb w2.heap.size g cap n most 2 (hgtY lf X Y Wn l) :=
    ⟨(kG1.ext hx2).alloc _, (kH1.ext hx2).alloc _, Bk.new' rfl, hF2.step ((Ext.refl w2).alloc _), by omega, by omega⟩
  have HRl := hidA hRl
  have Hxb := hidA hxb
  have Hgg := hidA (show w.heap.size ≤ g by omega)
  clear f0 f1 f2 f3 f4 h0 kF1 kH1 kG1 hFX hF2 hx2 hRl HVa hg hgs hgl hxb
  generalize w2.alloc (.cells #[.slice (some ⟨g, 0, none⟩) n cap] 24) = w3 at *
  generalize w2.heap.size = pb at *
  have Hcap := hidA hcap
  clear hcap
  go_upto_region 13 with fail
  go_loopw [15] (fun s15 wr => ∃ i : Nat, i ≤ n - 1 ∧ s15 = .int .i64 ((i : Int) + 1) ∧ FC w1 wr gb hb pb g cap n most 2 (fwdX false (drpX most l) (hgtY lf X Y Wn l) i)) (fun s15 _ => n - (intOf s15).toNat)
  case atStart => exact ⟨0, Nat.zero_le _, rfl, hC3⟩
  case round =>
    clear hC3
    obtain ⟨i, hi, rfl, hC⟩ := hrel
    by_cases him : i < n - 1
    · have Him := hidA him
      obtain ⟨adL, rfl, _, hcv⟩ := (HRl.out.ext hC.kf.x).at (k := i) (by simp [flt, lnL_length]; omega)
      have v1 := hcv i _ (flt_get (l := lnL l (n - 1)) (by rw [lnL_length]; omega))
      have hge := lnL_get l (n - 1) i him
      have hev : (lnL l (n - 1))[i]'(by rw [lnL_length]; omega) = lenR (lpo l (i + 1)).1 (lpo l (i + 1)).2 := by
        rw [← hge]
        simp [List.getD_eq_getElem?_getD, show i < (lnL l (n - 1)).length by rw [lnL_length]; omega]
      rw [hev] at v1
      have p0 := hC.kp.cell 0
      have hd := Hd.out i him
      have HNx := hidA (show fwdX false (drpX most l) (hgtY lf X Y Wn l) (i + 1) = fitX false (fwdX false (drpX most l) (hgtY lf X Y Wn l) i) (i + 1) i (drpX most l i) from rfl)
      have HB := hidA (BedOf1_false w1 wr gb hb pb g cap n most _ (i + 1) i (lenR (lpo l (i + 1)).1 (lpo l (i + 1)).2) hC (by omega) (by omega) (Hf.out i hi) (Hmu.out i (by omega)) hd.1)
      rw [show ((i + 1 : Nat) : Int) = (i : Int) + 1 from rfl] at HB
      rw [show fmul most (lenR (lpo l (i + 1)).1 (lpo l (i + 1)).2) = drpX most l i from rfl, ← HNx.out] at HB
      have i0 : (0 : Int) ≤ i := by omega
      have i1 : (i : Int) < ((n - 1 : Nat) : Int) := by omega
      have i2 : (i : Int) + 1 < n := by omega
      have i5 : (i : Int) + 1 ≤ 65536 := by omega
      have iw : IntKind.i64.wrap ((i : Int) + 1 + 1) = (i : Int) + 1 + 1 := IntWalk.i64_in _ ⟨by omega, by omega⟩
      clear hcv hge hev hd hC hi him
      generalize lenR (lpo l (i + 1)).1 (lpo l (i + 1)).2 = ln at *
      go_wp2_with (go_at_call 93; refine (HB.out).mono ?_; rintro e w4 ⟨rfl, hC4⟩)
      have HC4 := hidA hC4
      clear hC4
      go_wp2
      go_roundw
      case rel => exact ⟨i + 1, Him.out, (by first | rfl | go_num), HC4.out⟩
      case measure => exact nxt_e (by have := Him.out; omega)
    · obtain rfl : i = n - 1 := by omega
      have hC5 : FC w1 wr gb hb pb g cap n most 2 (bwdX false (drpX most l) (fwdX false (drpX most l) (hgtY lf X Y Wn l) (n - 1)) (n - 1) (n - 1 - (n - 1))) := by rw [Nat.sub_self]; exact hC
      have p0 := hC.kp.cell 0
      have iw : IntKind.i64.wrap ((n : Int) - 2) = (n : Int) - 2 := IntWalk.i64_in _ ⟨by omega, by omega⟩
      have ir : (n : Int) - 2 = ((n - 1 : Nat) : Int) - 1 := by omega
      have Hn1 := hidA (show 1 ≤ n from hn1)
      clear hC hi him
      go_upto_region 17 with fail
      clear p0 iw ir
      go_loopw [16] (fun s16 wr => ∃ t : Nat, t ≤ n - 1 ∧ s16 = .int .i64 ((t : Int) - 1) ∧ FC w1 wr gb hb pb g cap n most 2 (bwdX false (drpX most l) (fwdX false (drpX most l) (hgtY lf X Y Wn l) (n - 1)) (n - 1) (n - 1 - t))) (fun s16 _ => (intOf s16 + 1).toNat)
      case atStart => exact ⟨n - 1, Nat.le_refl _, rfl, hC5⟩
      case round =>
        clear hC5
        obtain ⟨t, ht, rfl, hC⟩ := hrel
        cases t with
        | zero =>
          rw [Nat.sub_zero] at hC
          have p0 := hC.kp.cell 0
          have HC := hidA hC
          clear hC ht
          go_wp2
          go_ret
          exact ⟨g, cap, rfl, Hgg.out, Hcap.out, HC.out.kf.base Hxb.out⟩
        | succ k =>
          have hk : k < n - 1 := by omega
          have Hk := hidA hk
          have ek : (((k + 1 : Nat) : Int) - 1) = (k : Int) := by omega
          rw [ek]
          obtain ⟨adL, rfl, _, hcv⟩ := (HRl.out.ext hC.kf.x).at (k := k) (by simp [flt, lnL_length]; omega)
          have v1 := hcv k _ (flt_get (l := lnL l (n - 1)) (by rw [lnL_length]; omega))
          have hge := lnL_get l (n - 1) k hk
          have hev : (lnL l (n - 1))[k]'(by rw [lnL_length]; omega) = lenR (lpo l (k + 1)).1 (lpo l (k + 1)).2 := by
            rw [← hge]
            simp [List.getD_eq_getElem?_getD, show k < (lnL l (n - 1)).length by rw [lnL_length]; omega]
          rw [hev] at v1
          have hd := Hd.out k hk
          have HNx := hidA (bwdX_at' (up := false) (ds := drpX most l) (h := fwdX false (drpX most l) (hgtY lf X Y Wn l) (n - 1)) hk)
          have HB := hidA (BedOf1_false w1 wr gb hb pb g cap n most _ k (k + 1) (lenR (lpo l (k + 1)).1 (lpo l (k + 1)).2) hC (by omega) (by omega) (Hb.out (n - 1 - (k + 1)) (by omega)) (Hmu.out k (by omega)) hd.1)
          rw [show ((k + 1 : Nat) : Int) = (k : Int) + 1 from rfl] at HB
          rw [show fmul most (lenR (lpo l (k + 1)).1 (lpo l (k + 1)).2) = drpX most l k from rfl, ← HNx.out] at HB
          have i0 : (0 : Int) ≤ k := by omega
          have i1 : (k : Int) < ((n - 1 : Nat) : Int) := by omega
          have i2 : (k : Int) + 1 < n := by omega
          have i3 : (k : Int) ≤ 65536 := by omega
          clear hcv hge hev hd hC ht hk ek HNx
          generalize lenR (lpo l (k + 1)).1 (lpo l (k + 1)).2 = ln at *
          go_wp2_with (go_at_call 93; refine (HB.out).mono ?_; rintro e w4 ⟨rfl, hC4⟩)
          have HC4 := hidA hC4
          clear hC4
          go_wp2
          go_roundw
          case rel => exact ⟨k, Nat.le_of_lt Hk.out, (by first | rfl | go_num), HC4.out⟩
          case measure => exact nxt_f
end Go.Proofs.Ytpgdinpckolfpaa
