/- Contracts: roads between sites in memory; field.Finite of one single; road.checkRoads. -/
import Derived.Test.YtpgdinpckolfpaaBxAC
import Derived.Laws.AppendOwn
import Derived.Lib.SliceRun
import Derived.Test.YtpgdinpckolfpaaRdE
import Derived.Test.YtpgdinpckolfpaaBxAA
import Derived.Test.YtpgdinpckolfpaaBaseC
import Derived.Test.YtpgdinpckolfpaaRdD
namespace Go.Proofs.Ytpgdinpckolfpaa

/-- one step of a bed: the height of i by that of j and a drop -/
def fitX (up : Bool) (h : Nat → Nat) (i j d : Nat) : Nat → Nat :=
  if up = true then (if gt (fsub (h j) d) (h i) = true then updF h i (fsub (h j) d) else h)
  else (if lt (fadd (h j) d) (h i) = true then updF h i (fadd (h j) d) else h)
/-- forth -/
def fwdX (up : Bool) (ds h : Nat → Nat) : Nat → Nat → Nat
  | 0 => h
  | i + 1 => fitX up (fwdX up ds h i) (i + 1) i (ds i)
/-- back -/
def bwdX (up : Bool) (ds h : Nat → Nat) (m : Nat) : Nat → Nat → Nat
  | 0 => h
  | j + 1 => fitX up (bwdX up ds h m j) (m - 1 - j) (m - 1 - j + 1) (ds (m - 1 - j))
def bedX (up : Bool) (ds h : Nat → Nat) (m : Nat) : Nat → Nat := bwdX up ds (fwdX up ds h m) m m
def meanX (a b : Nat → Nat) (k : Nat) : Nat := fmul (fadd (a k) (b k)) 1056964608
/-- heights -/
def HtB (h : Nat → Nat) (n : Nat) : Prop := ∀ k, k < n → Bd 20 (h k)
/-- drops -/
def DrB (ds : Nat → Nat) (m : Nat) : Prop := ∀ k, k < m → Bd 16 (ds k) ∧ 0 ≤ valI (ds k)
theorem fsub_leV {K x y : Nat} (hx : Bd K x) (hy : Bd K y) (hK : K ≤ 120) (h : 0 ≤ valI y) : valI (fsub x y) ≤ valI x := by
  apply val_key_le.2
  rw [fsub_key hx hy hK, ← rkey_val (bd_Fin hx (by omega))]
  exact rkey_mono (by omega)
theorem HtB.upd {h : Nat → Nat} {n i x : Nat} (hh : HtB h n) (hx : Bd 20 x) : HtB (updF h i x) n := by
  intro k hk
  unfold updF
  split
  · exact hx
  · exact hh k hk
theorem between_bd {a b c : Nat} (ha : Bd 20 a) (hb : Bd 20 b) (h1 : valI a ≤ valI c) (h2 : valI c ≤ valI b) : Bd 20 c := by
  rw [bd_valI (by omega)] at ha hb ⊢
  generalize (2 : Nat) ^ (20 + 149) = P at *
  omega
theorem fit_bits {h : Nat → Nat} {n j d : Nat} (hh : HtB h n) (hj : j < n) (hd : Bd 16 d) :
    floatBits .sub .f32 (h j) d = some (fsub (h j) d) ∧ floatBits .add .f32 (h j) d = some (fadd (h j) d) := by
  have h1 := hh j hj
  have h2 : Bd 20 d := hd.mono (by omega)
  exact ⟨(fsub_ok h1 h2 (by omega)).1, (fadd_ok h1 h2 (by omega)).1⟩
theorem HtB.fit {up : Bool} {h : Nat → Nat} {n i j d : Nat} (hh : HtB h n) (hi : i < n) (hj : j < n) (hd : Bd 16 d) (h0 : 0 ≤ valI d) : HtB (fitX up h i j d) n := by
  have h1 := hh j hj
  have h2 : Bd 20 d := hd.mono (by omega)
  have h3 := hh i hi
  unfold fitX
  cases up
  · rw [if_neg (by decide)]
    split
    · rename_i hg
      obtain ⟨_, b⟩ := fadd_ok h1 h2 (by omega)
      rw [lt_val (bd_Fin b (by omega)) (bd_Fin h3 (by omega))] at hg
      have hg' := of_decide_eq_true hg
      exact hh.upd (between_bd h1 h3 (fadd_ge h1 h2 (by omega) h0) (by omega))
    · exact hh
  · rw [if_pos rfl]
    split
    · rename_i hg
      obtain ⟨_, b⟩ := fsub_ok h1 h2 (by omega)
      rw [gt_val (bd_Fin b (by omega)) (bd_Fin h3 (by omega))] at hg
      have hg' := of_decide_eq_true hg
      exact hh.upd (between_bd h3 h1 (by omega) (fsub_leV h1 h2 (by omega) h0))
    · exact hh
theorem HtB.fwd {up : Bool} {ds h : Nat → Nat} {m : Nat} (hh : HtB h (m + 1)) (hd : DrB ds m) : ∀ i, i ≤ m → HtB (fwdX up ds h i) (m + 1)
  | 0, _ => hh
  | i + 1, hi => (HtB.fwd hh hd i (by omega)).fit (by omega) (by omega) (hd i (by omega)).1 (hd i (by omega)).2
theorem HtB.bwd {up : Bool} {ds h : Nat → Nat} {m : Nat} (hh : HtB h (m + 1)) (hd : DrB ds m) : ∀ i, i ≤ m → HtB (bwdX up ds h m i) (m + 1)
  | 0, _ => hh
  | i + 1, hi => (HtB.bwd hh hd i (by omega)).fit (by omega) (by omega) (hd _ (by omega)).1 (hd _ (by omega)).2
theorem HtB.bed {up : Bool} {ds h : Nat → Nat} {m : Nat} (hh : HtB h (m + 1)) (hd : DrB ds m) : HtB (bedX up ds h m) (m + 1) := (hh.fwd hd m (Nat.le_refl _)).bwd hd m (Nat.le_refl _)
theorem mean_ok {a b : Nat → Nat} {n k : Nat} (ha : HtB a n) (hb : HtB b n) (hk : k < n) : floatBits .add .f32 (a k) (b k) = some (fadd (a k) (b k)) ∧ floatBits .mul .f32 (fadd (a k) (b k)) 1056964608 = some (meanX a b k) ∧ Bd 23 (meanX a b k) := by
  obtain ⟨h1, h2⟩ := fadd_ok (ha k hk) (hb k hk) (by omega)
  obtain ⟨h3, h4⟩ := fmul_ok h2 half_bd (by omega)
  exact ⟨h1, h3, h4⟩
end Go.Proofs.Ytpgdinpckolfpaa

namespace Go.Proofs.Ytpgdinpckolfpaa
open Go.RowKit
attribute [local go_sem ↓] Go.wp_at_zero Go.wp_at_succ
attribute [local go_sem] run_store_float

/-- a copy of a slice of singles lies in a block of its own -/
structure Cl (w : World) (g cap : Nat) (cur : Array Value) (N : Nat) (f : Nat → Nat) : Prop where
  b : Bk w g 27 cur
  n : N ≤ cap
  s : cur.size = cap
  c : ∀ k, k < N → cur[k]? = some (.float .f32 (f k))
theorem Cl.ext {w w' : World} {g cap N : Nat} {cur : Array Value} {f : Nat → Nat} (h : Cl w g cap cur N f) (hx : Ext w w') : Cl w' g cap cur N f := ⟨h.b.ext hx, h.n, h.s, h.c⟩
theorem Cl.cell {w : World} {g cap N k : Nat} {cur : Array Value} {f : Nat → Nat} (h : Cl w g cap cur N f) (hk : k < N) : w.cell? ⟨g, k, none⟩ = some (.float .f32 (f k)) := by rw [h.b.cell]; exact h.c k hk
theorem Cl.far {w : World} {g cap N : Nat} {cur : Array Value} {f : Nat → Nat} (h : Cl w g cap cur N f) {p : Addr} (hp : g ≠ p.block) (u : Value) : Cl (w.setCell p u) g cap cur N f := ⟨h.b.far hp u, h.n, h.s, h.c⟩
theorem Cl.put {w : World} {g cap N : Nat} {cur : Array Value} {f : Nat → Nat} (h : Cl w g cap cur N f) (k x : Nat) : Cl (w.setCell ⟨g, k, none⟩ (.float .f32 x)) g cap (cur.setIfInBounds k (.float .f32 x)) N (updF f k x) := by
  refine ⟨Bk.set h.b k _, h.n, by simp [h.s], fun j hj => ?_⟩
  have hjs : j < cur.size := by have := h.n; have := h.s; omega
  rw [Array.getElem?_setIfInBounds]
  unfold updF
  by_cases e : k = j
  · subst e
    rw [if_pos rfl, if_pos hjs, if_pos rfl]
  · rw [if_neg e, if_neg (fun q => e q.symm)]
    exact h.c j hj
theorem infoFl : (Try.prog.info? 27).map (fun i => (i.zero, i.size, i.bytes)) = some (some (.float .f32 0), 1, 4) := by kernel_rfl
set_option maxRecDepth 100000 in
set_option maxHeartbeats 3200000 in
theorem Clone_any (ad : Addr) (N c : Nat) (l : List Nat) (w : World) (hl : l.length = N) (hV : Rd w (some ad) (flt l)) (h1 : 1 ≤ N) (hb : N ≤ 262144) :
    Calls Try.prog 118 #[.slice (some ad) N c] w fun e w' => ∃ g cap cur, e = .returned (.slice (some ⟨g, 0, none⟩) N cap) ∧ w.heap.size ≤ g ∧ Cl w' g cap cur N (fun k => l.getD k 0) ∧ Ext w w' := by
  obtain ⟨i0, hi0, hz0, hz1, hz2⟩ := info_parts infoFl
  have q22 : ∀ (w : World) (a : Option Addr) (n c n' c' : Nat), (binOp .eql 24 (.slice a n c) (.slice none n' c')).run Try.prog w = .ok (.bool a.isNone) w := fun w a n c n' c' => Lib.run_eql_slice_nil w _ _ a n c n' c' Try.underlying24
  have Hl := hidA hl
  have HV := hidA hV
  clear hl hV
  go_enter Try.func118, Try.ntmps118
  go_wp2_with (at_builtin; refine wpList_append_own _ rfl _ _ 24 rfl w.heap.size 27 i0 (.float .f32 0) 1 4 Try.underlying24 hi0 hz0 hz1 hz2 rfl (by decide) _ _ _ rfl (World.ownsRow_made w #[] 0 (Nat.le_refl _) (Nat.zero_le _) rfl) ad N c (flt l) rfl ?qc1 ?qc2 ?qc3 ?qc4 ?qc5 ?qc6 ?_)
  case qc2 =>
    intro j u hj
    have hjl : j < (flt l).length := (List.getElem?_eq_some_iff.1 hj).1
    obtain ⟨ad', e, _, hcv⟩ := (HV.out.ext ((Ext.refl w).alloc (.cells #[] 27))).at (k := j) hjl
    cases e
    exact hcv j u hj
  case qc3 =>
    intro u hu
    simp [flt] at hu
    obtain ⟨x, _, rfl⟩ := hu
    rfl
  case qc4 => unfold maxLen; omega
  case qc5 => omega
  case qc6 => simp
  case qc1 => simp [flt, Hl.out]
  intro v' w1 hown hgrow hnil
  have hx : Ext w w1 := Ext.grown ((Ext.refl w).alloc _) hgrow (by intro k hk; simp [Value.ownBlock] at hk; omega)
  rcases hown.2 with ⟨_, h0⟩ | ⟨g, cap, cur, hv, hge, hblk, hle, hmax, hsz, htake⟩
  · omega
  · subst hv
    have hC : Cl w1 g cap cur N (fun k => l.getD k 0) := by
      refine ⟨hblk, by omega, by simpa using hsz, fun k hk => ?_⟩
      have hkl : k < l.length := by rw [Hl.out]; exact hk
      have e1 : (cur.toList.take (N * 1))[k]? = some (.float .f32 (l.getD k 0)) := by
        rw [htake, flt_get hkl]
        simp [List.getD_eq_getElem?_getD, hkl]
      rw [List.getElem?_take, if_pos (by omega)] at e1
      simpa using e1
    have HC := hidA hC
    clear hC hown hnil hblk htake hgrow
    go_wp2
    go_ret
    exact ⟨g, cap, cur, by simp, by omega, HC.out, hx⟩

/-- singles of the call's own, and nothing else of the world has changed -/
structure FX (w0 : World) (g cap N : Nat) (f : Nat → Nat) (w : World) : Prop where
  c : ∃ cur, Cl w g cap cur N f
  x : Ext w0 w
theorem FX.put {w0 w : World} {g cap N : Nat} {f : Nat → Nat} (h : FX w0 g cap N f w) (hg : w0.heap.size ≤ g) (k x : Nat) : FX w0 g cap N (updF f k x) (w.setCell ⟨g, k, none⟩ (.float .f32 x)) := by
  obtain ⟨cur, hc⟩ := h.c
  exact ⟨⟨_, hc.put k x⟩, h.x.setCell (p := ⟨g, k, none⟩) hg _⟩
theorem FX.step {w0 w w' : World} {g cap N : Nat} {f : Nat → Nat} (h : FX w0 g cap N f w) (hx : Ext w w') : FX w0 g cap N f w' := by
  obtain ⟨cur, hc⟩ := h.c
  exact ⟨⟨_, hc.ext hx⟩, h.x.trans hx⟩
theorem FX.cell {w0 w : World} {g cap N k : Nat} {f : Nat → Nat} (h : FX w0 g cap N f w) (hk : k < N) : w.cell? ⟨g, k, none⟩ = some (.float .f32 (f k)) := by
  obtain ⟨cur, hc⟩ := h.c
  exact hc.cell hk
theorem FX.frozen {w0 w : World} {g cap N : Nat} {f : Nat → Nat} (h : FX w0 g cap N f w) (k : Nat) : w.frozen? ⟨g, k, none⟩ = false := by
  obtain ⟨cur, hc⟩ := h.c
  exact hc.b.frozen k
theorem FX.rd {w0 w : World} {g cap N : Nat} {f : Nat → Nat} (h : FX w0 g cap N f w) : Rd w (some ⟨g, 0, none⟩) (flt ((List.range N).map f)) := by
  obtain ⟨cur, hc⟩ := h.c
  intro _
  refine ⟨_, rfl, hc.b.lt, fun j u hu => ?_⟩
  rw [lit_add]
  have hj : j < N := by
    have := (List.getElem?_eq_some_iff.1 hu).1
    simpa [flt] using this
  rw [hc.cell hj]
  simp [flt, hj] at hu
  rw [hu]
theorem FX.base {w0 w1 w : World} {g cap N : Nat} {f : Nat → Nat} (h : FX w1 g cap N f w) (hx : Ext w0 w1) : FX w0 g cap N f w := ⟨h.c, hx.trans h.x⟩
theorem FX.congr {w0 w : World} {g cap N : Nat} {f f' : Nat → Nat} (h : FX w0 g cap N f w) (e : ∀ k, k < N → f k = f' k) : FX w0 g cap N f' w := by
  obtain ⟨cur, hc⟩ := h.c
  exact ⟨⟨cur, hc.b, hc.n, hc.s, fun k hk => by rw [← e k hk]; exact hc.c k hk⟩, h.x⟩
/-- a row of the call's own as singles that are stored into -/
theorem OwnFl.fx {w0 w : World} {v : Value} {xs : List Nat} (h : OwnFl w w0.heap.size v xs) (hx : Ext w0 w) (hne : xs ≠ []) : ∃ g cap, v = .slice (some ⟨g, 0, none⟩) xs.length cap ∧ w0.heap.size ≤ g ∧ xs.length ≤ cap ∧ FX w0 g cap xs.length (fun k => xs.getD k 0) w := by
  rcases h.2 with ⟨_, h0⟩ | ⟨g, cap, cur, hv, hge, hblk, hle, hmax, hsz, htake⟩
  · exact absurd (List.eq_nil_of_length_eq_zero h0) hne
  · refine ⟨g, cap, hv, hge, hle, ⟨⟨cur, ⟨hblk, hle, by simpa using hsz, fun k hk => ?_⟩⟩, hx⟩⟩
    have e1 : (cur.toList.take (xs.length * 1))[k]? = some (.float .f32 (xs.getD k 0)) := by
      rw [htake, flt_get hk]
      simp [List.getD_eq_getElem?_getD, hk]
    rw [List.getElem?_take, if_pos (by omega)] at e1
    simpa using e1
end Go.Proofs.Ytpgdinpckolfpaa

namespace Go.Proofs.Ytpgdinpckolfpaa
open Go.RowKit Ieee

/-- sums of prices: words that are not below zero, infinity among them -/
def SumB (x : Nat) : Prop := x ≤ 2139095040
/-- prices -/
def PriB (p : Nat) : Prop := Fin p ∧ 0 ≤ valI p
theorem read_infS : single.read 2139095040 = .infinity false := by decide +kernel
theorem signed_ge {t : Bool} {n : Nat} (h : t = false ∨ n = 0) (u : Nat) : 0 ≤ signed t n u := by
  rcases h with rfl | rfl
  · exact signed_false _ _
  · cases t <;> simp [signed]
theorem sum_up {x y r : Nat} (hx : Fin x) (sx : x < 2147483648) (hy : Fin y) (h0 : 0 ≤ valI y) (h : single.add x y = some r) : r < 2147483648 := by
  obtain ⟨s, m, k, e, _, _, _⟩ := read_val hx
  obtain ⟨t, n, j, e2, _, _, _⟩ := read_val hy
  obtain rfl := sign_false sx e
  have ht := sign_nonneg e2 hy h0
  unfold Format.add at h
  rw [e, e2] at h
  simp only [Datum.sum, Option.map_some, Option.some.injEq] at h
  rw [← h]
  have h1 := signed_false m ((k : Int) - 149 - min ((k : Int) - 149) ((j : Int) - 149)).toNat
  have h2 := signed_ge ht ((j : Int) - 149 - min ((k : Int) - 149) ((j : Int) - 149)).toNat
  generalize signed false m ((k : Int) - 149 - min ((k : Int) - 149) ((j : Int) - 149)).toNat = A at *
  generalize signed t n ((j : Int) - 149 - min ((k : Int) - 149) ((j : Int) - 149)).toNat = B at *
  have h3 : (if A + B = 0 then false && t else decide (A + B < 0)) = false := by
    split
    · rfl
    · exact decide_eq_false (by omega)
  show single.nearest (if A + B = 0 then false && t else decide (A + B < 0)) _ _ < _
  rw [h3]
  exact near_false _ _
theorem key_pos {x : Nat} (h : x < 2147483648) : keyI x = x := by
  unfold keyI
  rw [if_neg (by omega)]
  omega
theorem sum_inf {p : Nat} (hp : Fin p) : floatBits .add .f32 2139095040 p = some 2139095040 := by
  obtain ⟨t, n, j, e2, _, _, _⟩ := read_val hp
  have hd : floatBits .add .f32 2139095040 p = single.add 2139095040 p := rfl
  rw [hd]
  unfold Format.add
  rw [e2, read_infS]
  simp only [Datum.sum, Option.map_some, Option.some.injEq]
  decide +kernel
theorem sum_fin {x p : Nat} (hx : x < 2139095040) (hp : PriB p) : floatBits .add .f32 x p = some (fadd x p) ∧ fadd x p < 2147483648 ∧ ((fadd x p : Nat) : Int) = rkey (valI x + valI p) := by
  have hF : Fin x := by unfold Fin; omega
  have hd : floatBits .add .f32 x p = single.add x p := rfl
  obtain ⟨s, m, k, e, _, _, _⟩ := read_val hF
  obtain ⟨t, n, j, e2, _, _, _⟩ := read_val hp.1
  obtain ⟨r, hr⟩ : ∃ r, single.add x p = some r := by
    unfold Format.add
    rw [e, e2]
    exact ⟨_, rfl⟩
  have hf : fadd x p = r := by unfold fadd; rw [hd, hr]; rfl
  have h1 := sum_up hF (by omega) hp.1 hp.2 hr
  have h2 := add_key hF hp.1 hr
  rw [key_pos h1] at h2
  rw [hf, hd]
  exact ⟨hr, h1, h2⟩
theorem rkey_cap {Z : Int} (h : 0 ≤ Z) : rkey Z ≤ 2139095040 := by
  unfold rkey
  rw [if_neg (by omega)]
  omega
theorem val_pos {x : Nat} (h : x < 2147483648) : 0 ≤ valI x := valI_lt h
theorem sumT {x p : Nat} (hx : SumB x) (hp : PriB p) : floatBits .add .f32 x p = some (fadd x p) ∧ SumB (fadd x p) ∧ x ≤ fadd x p := by
  unfold SumB at *
  rcases Nat.lt_or_eq_of_le hx with h | h
  · obtain ⟨h1, h2, h3⟩ := sum_fin h hp
    have h4 := rkey_cap (Z := valI x + valI p) (by have := val_pos (x := x) (by omega); have := hp.2; omega)
    have hF : Fin x := by unfold Fin; omega
    have h5 := rkey_mono (Y := valI x) (Z := valI x + valI p) (by have := hp.2; omega)
    rw [rkey_val hF, key_pos (by omega)] at h5
    exact ⟨h1, by omega, by omega⟩
  · subst h
    have h1 := sum_inf hp.1
    have h2 : fadd 2139095040 p = 2139095040 := by unfold fadd; rw [h1]; rfl
    rw [h2]
    exact ⟨h1, Nat.le_refl _, Nat.le_refl _⟩
theorem sumT_mono {x y p : Nat} (hy : SumB y) (hp : PriB p) (h : x ≤ y) : fadd x p ≤ fadd y p := by
  have hx : SumB x := Nat.le_trans h hy
  unfold SumB at hx hy
  rcases Nat.lt_or_eq_of_le hy with h1 | h1
  · obtain ⟨_, _, a⟩ := sum_fin (show x < 2139095040 by omega) hp
    obtain ⟨_, _, b⟩ := sum_fin h1 hp
    have h2 : valI x ≤ valI y := val_key_le.2 (by rw [key_pos (by omega), key_pos (by omega)]; omega)
    have h3 := rkey_mono (Y := valI x + valI p) (Z := valI y + valI p) (by omega)
    omega
  · subst h1
    have h2 : fadd 2139095040 p = 2139095040 := by unfold fadd; rw [sum_inf hp.1]; rfl
    rw [h2]
    exact (sumT hx hp).2.1
theorem order_infR {y : Nat} (h : Fin y) : ord y 2139095040 = some .lt ∧ ord 2139095040 y = some .gt := by
  obtain ⟨s, m, k, e, _, _, _⟩ := read_val h
  constructor
  · show single.order y 2139095040 = _
    unfold Format.order
    rw [e, read_infS]
    rfl
  · show single.order 2139095040 y = _
    unfold Format.order
    rw [e, read_infS]
    rfl
theorem sum_lt {x y : Nat} (hx : SumB x) (hy : SumB y) : lt x y = decide (x < y) := by
  unfold SumB at hx hy
  rcases Nat.lt_or_eq_of_le hx with h | h
  · have hF : Fin x := by unfold Fin; omega
    rcases Nat.lt_or_eq_of_le hy with h1 | h1
    · have hG : Fin y := by unfold Fin; omega
      rw [lt_val hF hG]
      have := val_key (x := x) (y := y)
      rw [key_pos (by omega), key_pos (by omega)] at this
      rw [decide_eq_decide, this]
      omega
    · subst h1
      unfold lt
      rw [ord_def, (order_infR hF).1]
      simp [h]
  · subst h
    have h9 : ¬ 2139095040 < y := by omega
    rw [decide_eq_false h9]
    rcases Nat.lt_or_eq_of_le hy with h1 | h1
    · have hG : Fin y := by unfold Fin; omega
      unfold lt
      rw [ord_def, (order_infR hG).2]
      rfl
    · subst h1
      decide +kernel
theorem sum_not_nan {x : Nat} (hx : SumB x) : nanB x = false := by
  unfold SumB at hx
  rcases Nat.lt_or_eq_of_le hx with h | h
  · have hF : Fin x := by unfold Fin; omega
    obtain ⟨s, m, k, e, _, _, _⟩ := read_val hF
    show (single.read x).isNaN = false
    rw [e]
    rfl
  · subst h
    decide +kernel
theorem sum_eq {x : Nat} (hx : SumB x) : FloatKind.f32.format.order x x = some .eq := ord_self (sum_not_nan hx)
theorem sumB_zero : SumB 0 := by unfold SumB; omega
end Go.Proofs.Ytpgdinpckolfpaa

namespace Go.Proofs.Ytpgdinpckolfpaa
open Go.RowKit

/-- a road leads from a to b -/
def TrE (l : List (Nat × Nat × Nat)) (a b p : Nat) : Prop := (a, b, p) ∈ l ∨ (b, a, p) ∈ l
/-- right roads -/
def TrOk (N : Nat) (l : List (Nat × Nat × Nat)) : Prop := ∀ a b p, (a, b, p) ∈ l → a < N ∧ b < N ∧ a ≠ b ∧ PriB p
theorem TrOk.e {N : Nat} {l : List (Nat × Nat × Nat)} (h : TrOk N l) {a b p : Nat} (e : TrE l a b p) : a < N ∧ b < N ∧ a ≠ b ∧ PriB p := by
  rcases e with e | e
  · exact h _ _ _ e
  · obtain ⟨h1, h2, h3, h4⟩ := h _ _ _ e
    exact ⟨h2, h1, fun e => h3 e.symm, h4⟩
inductive TWay (l : List (Nat × Nat × Nat)) (src : Nat) : Nat → Nat → Prop
  | start : TWay l src src 0
  | step {a b p z : Nat} : TWay l src a z → TrE l a b p → TWay l src b (fadd z p)
def goesT (is : Nat → Bool) (v : Nat → Nat) (b x : Nat) : Bool := !is b || lt x (v b)
/-- what holds while sums are lowered -/
structure TS (N : Nat) (l : List (Nat × Nat × Nat)) (src : Nat) (is : Nat → Bool) (v : Nat → Nat) : Prop where
  way : ∀ k, k < N → is k = true → TWay l src k (v k)
  ob : ∀ k, k < N → SumB (v k)
  oz : ∀ k, k < N → is k = false → v k = 0
  os : v src = 0
  sk : is src = true
/-- sums that are the least -/
structure TLe (N : Nat) (l : List (Nat × Nat × Nat)) (src : Nat) (is : Nat → Bool) (v : Nat → Nat) : Prop where
  s : TS N l src is v
  least : ∀ k z, TWay l src k z → is k = true ∧ v k ≤ z
theorem upT_same {α : Type} (f : Nat → α) (k : Nat) (x : α) : updF f k x k = x := by unfold updF; rw [if_pos rfl]
theorem upT_ne {α : Type} (f : Nat → α) {k j : Nat} (x : α) (h : j ≠ k) : updF f k x j = f j := by unfold updF; rw [if_neg h]
section
variable {N : Nat} {l : List (Nat × Nat × Nat)} {src : Nat} {is : Nat → Bool} {v : Nat → Nat}
theorem TS.start (N : Nat) (l : List (Nat × Nat × Nat)) (src : Nat) : TS N l src (updF (fun _ => false) src true) (fun _ => 0) := by
  refine ⟨fun k _ hs => ?_, fun k _ => sumB_zero, fun _ _ _ => rfl, rfl, upT_same _ _ _⟩
  have e : k = src := by
    unfold updF at hs
    split at hs
    · assumption
    · cases hs
  subst e
  exact .start
theorem TS.put (h : TS N l src is v) (hl : TrOk N l) {a b p : Nat} (hs : is a = true) (hE : TrE l a b p) (hg : goesT is v b (fadd (v a) p) = true) : TS N l src (updF is b true) (updF v b (fadd (v a) p)) := by
  obtain ⟨ha, hb, _, hp⟩ := hl.e hE
  obtain ⟨_, s1, s2⟩ := sumT (h.ob a ha) hp
  have hns : src ≠ b := fun e => by
    subst e
    unfold goesT at hg
    rw [h.sk, sum_lt s1 (h.ob _ hb), h.os] at hg
    simp at hg
  refine ⟨fun k hk hsk => ?_, fun k hk => ?_, fun k hk hsk => ?_, by rw [upT_ne _ _ hns]; exact h.os, by rw [upT_ne _ _ hns]; exact h.sk⟩
  · by_cases e : k = b
    · subst e
      rw [upT_same]
      exact .step (h.way a ha hs) hE
    · rw [upT_ne _ _ e] at hsk ⊢
      exact h.way k hk hsk
  · by_cases e : k = b
    · subst e
      rw [upT_same]
      exact s1
    · rw [upT_ne _ _ e]
      exact h.ob k hk
  · by_cases e : k = b
    · subst e
      rw [upT_same] at hsk
      cases hsk
    · rw [upT_ne _ _ e] at hsk ⊢
      exact h.oz k hk hsk
theorem goesT_false (h : TS N l src is v) {b x : Nat} (hb : b < N) (hx : SumB x) (hg : goesT is v b x = false) : is b = true ∧ v b ≤ x := by
  unfold goesT at hg
  rw [sum_lt hx (h.ob b hb)] at hg
  simp at hg
  exact hg
theorem goesT_true (h : TS N l src is v) {b x : Nat} (hb : b < N) (hx : SumB x) (hg : goesT is v b x = true) : is b = false ∨ x < v b := by
  unfold goesT at hg
  rw [sum_lt hx (h.ob b hb)] at hg
  simpa using hg
theorem TS.least (h : TS N l src is v) (hl : TrOk N l) (hcl : ∀ a b p, is a = true → TrE l a b p → is b = true ∧ v b ≤ fadd (v a) p) : TLe N l src is v := by
  refine ⟨h, fun k z hw => ?_⟩
  have hz : ∀ k z, TWay l src k z → SumB z := fun k z hw => by
    induction hw with
    | start => exact sumB_zero
    | step _ hE ih => exact (sumT ih (hl.e hE).2.2.2).2.1
  induction hw with
  | start => exact ⟨h.sk, by rw [h.os]; omega⟩
  | @step a b p z hw hE ih =>
    have h1 := hcl a b p ih.1 hE
    exact ⟨h1.1, Nat.le_trans h1.2 (sumT_mono (hz _ _ hw) (hl.e hE).2.2.2 ih.2)⟩
theorem TLe.unique {is' : Nat → Bool} {v' : Nat → Nat} (h : TLe N l src is v) (h' : TLe N l src is' v') {k : Nat} (hk : k < N) : is k = is' k ∧ v k = v' k := by
  have key : ∀ {is is' : Nat → Bool} {v v' : Nat → Nat}, TLe N l src is v → TLe N l src is' v' → is k = true → is' k = true ∧ v' k ≤ v k := fun h h' hs => h'.least k _ (h.s.way k hk hs)
  cases hs : is k
  · have h1 : is' k = false := by
      cases hs' : is' k
      · rfl
      · rw [(key h' h hs').1] at hs; cases hs
    exact ⟨h1.symm, by rw [h.s.oz k hk hs, h'.s.oz k hk h1]⟩
  · have h1 := key h h' hs
    have h2 := key h' h h1.1
    exact ⟨h1.1.symm, by omega⟩
/-- what each sweep lowers -/
def tM (is : Nat → Bool) (v : Nat → Nat) : Nat → Nat
  | 0 => 0
  | n + 1 => tM is v n + (if is n = true then v n else 2139095041)
theorem tM_far (b x : Nat) : ∀ n, n ≤ b → tM (updF is b true) (updF v b x) n = tM is v n
  | 0, _ => rfl
  | n + 1, h => by
    unfold tM
    rw [tM_far b x n (by omega), upT_ne _ _ (by omega : n ≠ b), upT_ne _ _ (by omega : n ≠ b)]
theorem tM_put {b x : Nat} (hx : x < (if is b = true then v b else 2139095041)) : ∀ n, b < n → tM (updF is b true) (updF v b x) n < tM is v n
  | 0, h => by omega
  | n + 1, h => by
    unfold tM
    by_cases e : n = b
    · subst e
      rw [tM_far n x n (Nat.le_refl _), upT_same, upT_same, if_pos rfl]
      omega
    · have ih := tM_put hx n (by omega)
      rw [upT_ne _ _ e, upT_ne _ _ e]
      omega
theorem TS.less (h : TS N l src is v) {b x : Nat} (hb : b < N) (hx : SumB x) (hg : goesT is v b x = true) : tM (updF is b true) (updF v b x) N < tM is v N := by
  refine tM_put ?_ N hb
  rcases goesT_true h hb hx hg with h1 | h1
  · rw [h1, if_neg (by decide)]
    unfold SumB at hx
    omega
  · have := h.ob b hb
    unfold SumB at hx this
    split <;> omega
/-- a sweep: what holds when the roads L are done -/
def TSw (N : Nat) (L : List (Nat × Nat × Nat)) (m : Nat) (again : Bool) (is : Nat → Bool) (v : Nat → Nat) : Prop :=
  (again = true ∧ tM is v N < m) ∨ (again = false ∧ tM is v N = m ∧ ∀ a b p, TrE L a b p → is a = true → is b = true ∧ v b ≤ fadd (v a) p)
/-- the site that is nearest: what holds between two rounds -/
structure TD (N : Nat) (l : List (Nat × Nat × Nat)) (src : Nat) (done is : Nat → Bool) (v : Nat → Nat) : Prop where
  s : TS N l src is v
  dk : ∀ a, done a = true → is a = true
  cl : ∀ a b p, done a = true → TrE l a b p → is b = true ∧ v b ≤ fadd (v a) p
  lo : ∀ a b, a < N → b < N → done a = true → is b = true → done b = false → v a ≤ v b
/-- and within a round -/
structure TR (N : Nat) (l : List (Nat × Nat × Nat)) (src : Nat) (L : List (Nat × Nat × Nat)) (k : Nat) (done is : Nat → Bool) (v : Nat → Nat) : Prop where
  s : TS N l src is v
  kN : k < N
  kd : done k = true
  dk : ∀ a, done a = true → is a = true
  cl : ∀ a b p, done a = true → a ≠ k → TrE l a b p → is b = true ∧ v b ≤ fadd (v a) p
  ck : ∀ b p, TrE L k b p → is b = true ∧ v b ≤ fadd (v k) p
  lo : ∀ a b, a < N → b < N → done a = true → is b = true → done b = false → v a ≤ v b
  hi : ∀ a, a < N → done a = true → v a ≤ v k
variable {done : Nat → Bool}
theorem TD.start (N : Nat) (l : List (Nat × Nat × Nat)) (src : Nat) : TD N l src (fun _ => false) (updF (fun _ => false) src true) (fun _ => 0) :=
  ⟨TS.start N l src, (fun _ h => by cases h), (fun _ _ _ h => by cases h), (fun _ _ _ _ h => by cases h)⟩
theorem TD.take (h : TD N l src done is v) {k : Nat} (hk : k < N) (hi : is k = true) (hd : done k = false) (hm : ∀ j, j < N → is j = true → done j = false → v k ≤ v j) : TR N l src [] k (updF done k true) is v := by
  have e : ∀ a, updF done k true a = true → a = k ∨ (a ≠ k ∧ done a = true) := fun a ha => by
    by_cases e : a = k
    · exact .inl e
    · rw [upT_ne _ _ e] at ha; exact .inr ⟨e, ha⟩
  refine ⟨h.s, hk, upT_same _ _ _, fun a ha => ?_, fun a b p ha hak hE => ?_, fun b p hE => ?_, fun a b ha hb hda hib hdb => ?_, fun a ha hda => ?_⟩
  · rcases e a ha with rfl | ⟨_, h1⟩
    · exact hi
    · exact h.dk a h1
  · rcases e a ha with h1 | ⟨_, h1⟩
    · exact absurd h1 hak
    · exact h.cl a b p h1 hE
  · rcases hE with h1 | h1 <;> cases h1
  · have hbk : b ≠ k := fun e => by subst e; rw [upT_same] at hdb; cases hdb
    rw [upT_ne _ _ hbk] at hdb
    rcases e a hda with rfl | ⟨_, h1⟩
    · exact hm b hb hib hdb
    · exact h.lo a b ha hb h1 hib hdb
  · rcases e a hda with rfl | ⟨_, h1⟩
    · exact Nat.le_refl _
    · exact h.lo a k ha hk h1 hi hd
theorem TrE.snoc {L : List (Nat × Nat × Nat)} {a b p c d q : Nat} (h : TrE (L ++ [(c, d, q)]) a b p) : TrE L a b p ∨ (a = c ∧ b = d ∧ p = q) ∨ (a = d ∧ b = c ∧ p = q) := by
  rcases h with h | h
  · rcases List.mem_append.1 h with h1 | h1
    · exact .inl (.inl h1)
    · simp at h1; exact .inr (.inl h1)
  · rcases List.mem_append.1 h with h1 | h1
    · exact .inl (.inr h1)
    · simp at h1; exact .inr (.inr ⟨h1.2.1, h1.1, h1.2.2⟩)
theorem TR.skip {L : List (Nat × Nat × Nat)} {k a b p : Nat} (h : TR N l src L k done is v) (ha : a ≠ k) (hb : b ≠ k) : TR N l src (L ++ [(a, b, p)]) k done is v :=
  ⟨h.s, h.kN, h.kd, h.dk, h.cl, fun c q hE => by
    rcases hE.snoc with h1 | ⟨h1, _⟩ | ⟨h1, _⟩
    · exact h.ck c q h1
    · exact absurd h1.symm ha
    · exact absurd h1.symm hb, h.lo, h.hi⟩
theorem TR.stay {L : List (Nat × Nat × Nat)} {k t a b p : Nat} (h : TR N l src L k done is v) (hl : TrOk N l) (hab : (a = k ∧ b = t) ∨ (a = t ∧ b = k)) (hE : TrE l k t p) (hg : goesT is v t (fadd (v k) p) = false) : TR N l src (L ++ [(a, b, p)]) k done is v := by
  obtain ⟨_, ht, hkt, hp⟩ := hl.e hE
  have h1 := goesT_false h.s ht (sumT (h.s.ob k h.kN) hp).2.1 hg
  refine ⟨h.s, h.kN, h.kd, h.dk, h.cl, fun c q hE2 => ?_, h.lo, h.hi⟩
  rcases hE2.snoc with h2 | ⟨e1, e2, e3⟩ | ⟨e1, e2, e3⟩
  · exact h.ck c q h2
  · rcases hab with ⟨rfl, rfl⟩ | ⟨rfl, rfl⟩
    · rw [e2, e3]; exact h1
    · exact absurd e1 hkt
  · rcases hab with ⟨rfl, rfl⟩ | ⟨rfl, rfl⟩
    · exact absurd e1 hkt
    · rw [e2, e3]; exact h1
theorem TR.put {L : List (Nat × Nat × Nat)} {k t a b p : Nat} (h : TR N l src L k done is v) (hl : TrOk N l) (hab : (a = k ∧ b = t) ∨ (a = t ∧ b = k)) (hE : TrE l k t p) (hg : goesT is v t (fadd (v k) p) = true) : TR N l src (L ++ [(a, b, p)]) k done (updF is t true) (updF v t (fadd (v k) p)) := by
  obtain ⟨_, ht, hkt, hp⟩ := hl.e hE
  obtain ⟨_, s1, s2⟩ := sumT (h.s.ob k h.kN) hp
  have hkk : t ≠ k := fun e => hkt e.symm
  have hv := goesT_true h.s ht s1 hg
  have hdt : done t = false := by
    cases hd : done t
    · rfl
    · rcases hv with h1 | h1
      · rw [h.dk t hd] at h1; cases h1
      · have := h.hi t ht hd
        omega
  have hne : ∀ a, done a = true → a ≠ t := fun a ha e => by subst e; rw [hdt] at ha; cases ha
  have hS := h.s.put hl (h.dk k h.kd) hE hg
  obtain ⟨x, hx⟩ : ∃ x, x = fadd (v k) p := ⟨_, rfl⟩
  rw [← hx] at hS s1 s2 hv ⊢
  have key : ∀ c y, is c = true ∧ v c ≤ y → updF is t true c = true ∧ updF v t x c ≤ y := fun c y hc => by
    by_cases e : c = t
    · subst e
      rw [upT_same, upT_same]
      refine ⟨rfl, ?_⟩
      rcases hv with h1 | h1
      · rw [hc.1] at h1; cases h1
      · omega
    · rw [upT_ne _ _ e, upT_ne _ _ e]
      exact hc
  refine ⟨hS, h.kN, h.kd, fun c hc => ?_, fun c d q hc hck hE2 => ?_, fun c q hE2 => ?_, fun c d hc hd hdc hid hdd => ?_, fun c hc hdc => ?_⟩
  · rw [upT_ne _ _ (hne c hc)]; exact h.dk c hc
  · rw [upT_ne v _ (hne c hc)]
    exact key _ _ (h.cl c d q hc hck hE2)
  · rw [upT_ne v _ (fun e => hkk e.symm)]
    rcases hE2.snoc with h2 | ⟨e1, e2, e3⟩ | ⟨e1, e2, e3⟩
    · exact key _ _ (h.ck c q h2)
    · rcases hab with ⟨rfl, rfl⟩ | ⟨rfl, rfl⟩
      · rw [e2, e3, ← hx, upT_same, upT_same]
        exact ⟨rfl, Nat.le_refl _⟩
      · exact absurd e1 hkt
    · rcases hab with ⟨rfl, rfl⟩ | ⟨rfl, rfl⟩
      · exact absurd e1 hkt
      · rw [e2, e3, ← hx, upT_same, upT_same]
        exact ⟨rfl, Nat.le_refl _⟩
  · rw [upT_ne v _ (hne c hdc)]
    by_cases e : d = t
    · subst e
      rw [upT_same]
      have := h.hi c hc hdc
      omega
    · rw [upT_ne _ _ e] at hid ⊢
      exact h.lo c d hc hd hdc hid hdd
  · rw [upT_ne v _ (hne c hdc), upT_ne v _ (fun e => hkk e.symm)]
    exact h.hi c hc hdc
theorem TR.close {k : Nat} (h : TR N l src l k done is v) : TD N l src done is v :=
  ⟨h.s, h.dk, fun a b p hd hE => by
    by_cases e : a = k
    · subst e; exact h.ck b p hE
    · exact h.cl a b p hd e hE, h.lo⟩
theorem TD.fin (h : TD N l src done is v) (hl : TrOk N l) (hn : ∀ j, j < N → is j = true → done j = true) : TLe N l src is v :=
  h.s.least hl (fun a b p hi hE => h.cl a b p (hn a (hl.e hE).1 hi) hE)
end
end Go.Proofs.Ytpgdinpckolfpaa

namespace Go.Proofs.Ytpgdinpckolfpaa
open Go.RowKit
attribute [local go_sem ↓] Go.wp_at_zero Go.wp_at_succ
attribute [local go_sem] run_store_float

/-- a road -/
structure RoR where
  a : Int
  b : Int
  A : Option Addr
  n : Nat
  c : Nat
  p : Nat
instance : Inhabited RoR := ⟨⟨0, 0, none, 0, 0, 0⟩⟩
def RoR.cells (r : RoR) : List Value := [.int .i64 r.a, .int .i64 r.b, .slice r.A r.n r.c, .float .f32 r.p]
def rocells (l : List RoR) : List Value := l.flatMap RoR.cells
theorem rocells_length : ∀ l : List RoR, (rocells l).length = l.length * 4
  | [] => rfl
  | r :: t => by
    show (r.cells ++ rocells t).length = _
    rw [List.length_append, rocells_length t]
    show 4 + t.length * 4 = _
    simp
    omega
theorem rocells_get : ∀ {l : List RoR} {k i : Nat} (hk : k < l.length), i < 4 → (rocells l)[k * 4 + i]? = (l[k].cells)[i]?
  | x :: r, 0, i, _, hi => by
    show (x.cells ++ rocells r)[0 * 4 + i]? = _
    rw [Nat.zero_mul, Nat.zero_add, List.getElem?_append_left (show i < x.cells.length from hi)]
    rfl
  | x :: r, k + 1, i, hk, hi => by
    have hk' : k < r.length := by simpa using hk
    show (x.cells ++ rocells r)[(k + 1) * 4 + i]? = _
    have e : x.cells.length = 4 := rfl
    rw [List.getElem?_append_right (by rw [e]; omega), e, show (k + 1) * 4 + i - 4 = k * 4 + i by omega]
    simpa using rocells_get hk' hi
theorem Rd.road {w : World} {A : Option Addr} {l : List RoR} (h : Rd w A (rocells l)) {k : Nat} (hk : k < l.length) : ∃ ad, A = some ad ∧ ad.block < w.heap.size ∧
    w.cell? (ad.add (k * 4)) = some (.int .i64 l[k].a) ∧ w.cell? ⟨(ad.add (k * 4)).block, (ad.add (k * 4)).off + 1, none⟩ = some (.int .i64 l[k].b) ∧
    w.cell? ⟨(ad.add (k * 4)).block, (ad.add (k * 4)).off + 2, none⟩ = some (.slice l[k].A l[k].n l[k].c) ∧ w.cell? ⟨(ad.add (k * 4)).block, (ad.add (k * 4)).off + 3, none⟩ = some (.float .f32 l[k].p) := by
  obtain ⟨ad, rfl, hb, hc⟩ := h (by rintro e; have := rocells_length l; rw [e] at this; simp at this; omega)
  refine ⟨ad, rfl, hb, hc _ _ (rocells_get (i := 0) hk (by omega)), ?_, ?_, ?_⟩
  all_goals
    rw [add_off _ _ (by omega)]
    exact hc _ _ (rocells_get hk (by omega))
/-- the error of a road -/
def roadE (many : Int) (r : RoR) : Int := if r.a < 0 ∨ many ≤ r.a ∨ r.b < 0 ∨ many ≤ r.b then 11 else if r.a = r.b then 14 else if finB r.p = false then 2 else if lt r.p 0 = true then 3 else 0
def roadsI (many : Int) : List RoR → Int
  | [] => 0
  | r :: t => if roadE many r ≠ 0 then roadE many r else roadsI many t
def roadsE (many : Int) (l : List RoR) : Int := if many < 1 ∨ 24 < many then 3 else if 1000 < l.length then 4 else roadsI many l
theorem roadsI_at {many : Int} {l : List RoR} {k : Nat} (hk : k < l.length) : roadsI many (l.drop k) = if roadE many l[k] ≠ 0 then roadE many l[k] else roadsI many (l.drop (k + 1)) := by
  rw [List.drop_eq_getElem_cons hk]
  rfl
theorem nxt_c {k n : Nat} (h : k < n) : n - (intOf (.int .i64 ((k : Int) + 1))).toNat < n - (intOf (.int .i64 (k : Int))).toNat := by
  simp [intOf]
  omega
def finE (l : List Nat) : Int := if l.any (fun b => !finB b) then 2 else 0
set_option maxHeartbeats 800000 in
theorem Finite_any (A : Option Addr) (n c : Nat) (l : List Nat) (w : World) (hn : l.length = n) (hr : Rd w A (flt l)) (hb : n ≤ 140737488351232) :
    Calls Try.prog 114 #[.slice A n c] w fun e w' => e = .returned (.int .i64 (finE l)) ∧ w' = w := by
  have Hn := hidA hn
  clear hn
  go_enter Try.func114, Try.ntmps114
  go_upto_region 2 with fail
  go_loopw [7] (fun s7 wr => ∃ k : Nat, k ≤ n ∧ s7 = .int .i64 k ∧ AllTo finB l k ∧ wr = w) (fun s7 _ => n - (intOf s7).toNat)
  case atStart => exact ⟨0, Nat.zero_le _, rfl, AllTo.zero _ _, rfl⟩
  case round =>
    obtain ⟨k, hk, rfl, hf, hwr⟩ := hrel
    subst hwr
    by_cases hlt : k < n
    · have Hk := hidA hlt
      have hkl : k < l.length := by have := Hn.out; omega
      obtain ⟨ad, rfl, hbk, hc⟩ := hr.at (k := k) (by simpa using hkl)
      have hck := hc k _ (flt_get hkl)
      have i0 : (0 : Int) ≤ k := by omega
      have i1 : (k : Int) < n := by omega
      clear hc
      cases hfin : finB l[k]
      · have H2 : Hid (finE l = 2) := by
          show _ = _
          unfold finE
          rw [if_pos (List.any_eq_true.2 ⟨l[k], List.getElem_mem hkl, by rw [hfin]; rfl⟩)]
        clear hf
        go_wp2_with (go_at_call 101; refine (finite_any _ _).mono ?_; rintro e w' ⟨rfl, hw'⟩; subst hw')
        go_ret
        exact ⟨ret_i H2.out.symm, rfl⟩
      · have hs := hidA (hf.step hkl hfin)
        clear hf
        go_wp2_with (go_at_call 101; refine (finite_any _ _).mono ?_; rintro e w' ⟨rfl, hw'⟩; subst hw')
        go_roundw
        case rel => exact ⟨k + 1, Hk.out, (by first | rfl | go_num), hs.out, (by first | rfl | trivial)⟩
        case measure => exact nxt_c Hk.out
    · have ha := hf.all (by have := Hn.out; omega)
      have H2 : Hid (finE l = 0) := by
        show _ = _
        unfold finE
        rw [if_neg]
        intro h
        obtain ⟨b, hb, h2⟩ := List.any_eq_true.1 h
        rw [ha b hb] at h2
        cases h2
      clear hf ha
      go_wp2
      go_ret
      exact ⟨ret_i H2.out.symm, (by first | rfl | trivial)⟩
theorem finE_one (b : Nat) : finE [b] = if finB b = true then 0 else 2 := by
  unfold finE
  cases h : finB b <;> simp [h]
set_option maxRecDepth 100000 in
set_option maxHeartbeats 3200000 in
theorem checkRoads_any (many : Int) (A : Option Addr) (n c : Nat) (l : List RoR) (w : World) (hn : l.length = n) (hV : Rd w A (rocells l)) :
    Calls Try.prog 82 #[.int .i64 many, .slice A n c] w fun e w' => e = .returned (.int .i64 (roadsE many l)) ∧ Ext w w' := by
  have Hn := hidA hn
  have hE : Hid (roadsE many l = if many < 1 ∨ 24 < many then 3 else if 1000 < n then 4 else roadsI many l) := by show _ = _; unfold roadsE; rw [hn]
  generalize roadsE many l = E at *
  have HV := hidA hV
  clear hn hV
  go_enter Try.func82, Try.ntmps82
  by_cases h1 : many < 1
  · have HE2 := hidA (hE.out.trans (if_pos (.inl h1)))
    clear hE
    go_wp2
    go_ret
    exact ⟨ret_i HE2.out.symm, Ext.refl _⟩
  · by_cases h24 : 24 < many
    · have HE2 := hidA (hE.out.trans (if_pos (.inr h24)))
      clear hE
      go_wp2
      go_ret
      exact ⟨ret_i HE2.out.symm, Ext.refl _⟩
    · have HE2 := hidA (hE.out.trans (if_neg (by omega)))
      clear hE
      by_cases hn1 : 1000 < n
      · have HE3 := hidA (HE2.out.trans (if_pos hn1))
        have hn1' : (1000 : Int) < n := by omega
        clear HE2
        go_wp2
        go_ret
        exact ⟨ret_i HE3.out.symm, Ext.refl _⟩
      · have HE3 := hidA (HE2.out.trans (if_neg hn1))
        have hn1' : ¬ (1000 : Int) < n := by omega
        have hn2 := hidA (show n ≤ 1000 by omega)
        clear HE2 hn1
        go_upto_region 6 with fail
        clear hn1' h24 h1
        go_loopw [19] (fun s19 wr => ∃ k : Nat, k ≤ n ∧ s19 = .int .i64 k ∧ E = roadsI many (l.drop k) ∧ Ext w wr) (fun s19 _ => n - (intOf s19).toNat)
        case atStart => exact ⟨0, Nat.zero_le _, rfl, HE3.out, Ext.refl _⟩
        case round =>
          obtain ⟨k, hk, rfl, he, hx⟩ := hrel
          by_cases hkn : k < n
          · have Hk := hidA hkn
            have hkl : k < l.length := by have := Hn.out; omega
            obtain ⟨ad, rfl, hbk, d0, d1, d2, d3⟩ := (HV.out.ext hx).road hkl
            have he2 := he.trans (roadsI_at hkl)
            obtain ⟨r, hr⟩ : ∃ r, r = l[k] := ⟨_, rfl⟩
            rw [← hr] at d0 d1 d2 d3 he2
            obtain ⟨a, b, wA, wn, wc, p⟩ := r
            dsimp only at d0 d1 d2 d3
            have i0 : (0 : Int) ≤ k := by omega
            have i1 : (k : Int) < n := by omega
            have i2 : (k : Int) ≤ 1000 := by have := hn2.out; omega
            have HE4 := hidA he2
            clear he he2 hr hbk hk hkn
            go_upto_region 8 with fail
            have kR : Bk (wr.alloc (.cells #[.int .i64 a, .int .i64 b, .slice wA wn wc, .float .f32 p] 87)) wr.heap.size 87 #[.int .i64 a, .int .i64 b, .slice wA wn wc, .float .f32 p] := Bk.new' rfl
            have hx1 := hx.alloc (.cells #[.int .i64 a, .int .i64 b, .slice wA wn wc, .float .f32 p] 87)
            clear d0 d1 d2 d3 hx
            generalize wr.alloc (.cells #[.int .i64 a, .int .i64 b, .slice wA wn wc, .float .f32 p] 87) = w1 at *
            generalize wr.heap.size = ha at *
            have r0 := kR.cell 0
            have r1 := kR.cell 1
            have r3 := kR.cell 3
            by_cases hp : a < 0 ∨ many ≤ a ∨ b < 0 ∨ many ≤ b
            · have HE5 : Hid (E = 11) := by
                show _ = _
                rw [HE4.out]
                unfold roadE
                dsimp only
                rw [if_pos hp, if_pos (by decide)]
              have Hx := hidA hx1
              clear HE4 hx1 kR r3
              have hp' : (a < 0) ∨ (¬ a < 0 ∧ many ≤ a) ∨ (¬ a < 0 ∧ ¬ many ≤ a ∧ b < 0) ∨ (¬ a < 0 ∧ ¬ many ≤ a ∧ ¬ b < 0 ∧ many ≤ b) := by omega
              clear hp
              rcases hp' with q1 | ⟨q1, q2⟩ | ⟨q1, q2, q3⟩ | ⟨q1, q2, q3, q4⟩
              all_goals
                go_wp2
                go_ret
                exact ⟨ret_i HE5.out.symm, Hx.out⟩
            · have q1 : ¬ a < 0 := fun h => hp (.inl h)
              have q2 : ¬ many ≤ a := fun h => hp (.inr (.inl h))
              have q3 : ¬ b < 0 := fun h => hp (.inr (.inr (.inl h)))
              have q4 : ¬ many ≤ b := fun h => hp (.inr (.inr (.inr h)))
              by_cases hab : a = b
              · have HE5 : Hid (E = 14) := by
                  show _ = _
                  rw [HE4.out]
                  unfold roadE
                  dsimp only
                  rw [if_neg hp, if_pos hab, if_pos (by decide)]
                have Hx := hidA hx1
                clear HE4 hx1 kR r3 hp
                go_wp2
                go_ret
                exact ⟨ret_i HE5.out.symm, Hx.out⟩
              · have HE6 : Hid (E = (if (if finB p = false then (2 : Int) else if lt p 0 = true then 3 else 0) ≠ 0 then (if finB p = false then 2 else if lt p 0 = true then 3 else 0) else roadsI many (l.drop (k + 1)))) := by
                  show _ = _
                  rw [HE4.out]
                  unfold roadE
                  dsimp only
                  rw [if_neg hp, if_neg hab]
                clear HE4 hp
                go_upto_region 12 with fail
                clear r0 r1 q1 q2 q3 q4 hab
                have HFi := fun (g : Nat) (w' : World) (h : Bk w' g 27 #[.float .f32 p]) => hidA (Finite_any (some ⟨g, 0, none⟩) 1 1 [p] w' rfl (fun _ => ⟨_, rfl, h.lt, fun j u hu => by rw [lit_add, h.cell]; simpa [flt] using hu⟩) (by omega))
                rw [finE_one] at HFi
                cases hf : finB p
                · rw [hf] at HFi HE6
                  have HE7 : Hid (E = 2) := by show _ = _; rw [HE6.out]; simp
                  clear HE6
                  simp only [Bool.false_eq_true, if_false] at HFi
                  go_wp2_with (go_at_call 114; refine ((HFi _ _ (Bk.new' rfl)).out).mono ?_; rintro e w2 ⟨rfl, hw2⟩; subst hw2)
                  go_ret
                  exact ⟨ret_i HE7.out.symm, hx1.alloc _⟩
                · rw [hf] at HFi HE6
                  simp only [if_true] at HFi
                  cases hl : lt p 0
                  · have hl' : (FloatKind.f32.format.order p 0 == some .lt) = false := hl
                    have HE7 : Hid (E = roadsI many (l.drop (k + 1))) := by show _ = _; rw [HE6.out]; simp [hl]
                    clear HE6 hl
                    go_upto_region 15 with (go_at_call 114; refine ((HFi _ _ (Bk.new' rfl)).out).mono ?_; rintro e w2 ⟨rfl, hw2⟩; subst hw2)
                    have r3' := (kR.alloc (.cells #[.float .f32 p] 27)).cell 3
                    have Hx2 := hidA (hx1.alloc (.cells #[.float .f32 p] 27))
                    clear r3 kR hx1 HFi
                    go_wp2
                    go_roundw
                    case rel => exact ⟨k + 1, Hk.out, (by first | rfl | go_num), HE7.out, Hx2.out⟩
                    case measure => exact nxt_c Hk.out
                  · have hl' : (FloatKind.f32.format.order p 0 == some .lt) = true := hl
                    have HE7 : Hid (E = 3) := by show _ = _; rw [HE6.out]; simp [hl]
                    clear HE6 hl
                    go_upto_region 15 with (go_at_call 114; refine ((HFi _ _ (Bk.new' rfl)).out).mono ?_; rintro e w2 ⟨rfl, hw2⟩; subst hw2)
                    have r3' := (kR.alloc (.cells #[.float .f32 p] 27)).cell 3
                    have Hx2 := hidA (hx1.alloc (.cells #[.float .f32 p] 27))
                    clear r3 kR hx1 HFi
                    go_wp2
                    go_ret
                    exact ⟨ret_i HE7.out.symm, Hx2.out⟩
          · have HE4 : Hid (E = 0) := by
              show _ = _
              rw [he, List.drop_of_length_le (by have := Hn.out; omega)]
              rfl
            obtain rfl : k = n := by omega
            clear he hk hkn
            go_wp2
            go_ret
            exact ⟨ret_i HE4.out.symm, hx⟩
end Go.Proofs.Ytpgdinpckolfpaa
