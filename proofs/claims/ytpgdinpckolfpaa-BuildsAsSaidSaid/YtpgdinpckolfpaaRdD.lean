/- Contract: road.prices$1: a step from the cell that is looked at. -/
import Derived.Test.YtpgdinpckolfpaaRdR
import Derived.Test.YtpgdinpckolfpaaRdB
import Derived.Test.YtpgdinpckolfpaaQueD
namespace Go.Proofs.Ytpgdinpckolfpaa
open Go.RowKit
attribute [local go_sem ↓] Go.wp_at_zero Go.wp_at_succ
attribute [local go_sem] run_store_float

def bools (m : Nat) (b : Nat → Bool) : Array Value := ((List.range m).map fun k => Value.bool (b k)).toArray
theorem bools_get {m k : Nat} (b : Nat → Bool) (hk : k < m) : (bools m b)[k]? = some (.bool (b k)) := by
  unfold bools
  rw [List.getElem?_toArray, List.getElem?_map, List.getElem?_range hk]
  rfl
theorem bools_set {m k : Nat} (b : Nat → Bool) (x : Bool) : (bools m b).setIfInBounds k (.bool x) = bools m (updF b k x) := by
  apply Array.ext
  · simp [bools]
  · intro j h1 h2
    have hj : j < m := by simpa [bools] using h2
    have e1 : (bools m (updF b k x))[j] = .bool (updF b k x j) := by simp [bools]
    have e2 : (bools m b)[j]'(by simpa [bools] using hj) = .bool (b j) := by simp [bools]
    rw [Array.getElem_setIfInBounds (by simpa [bools] using hj), e1, e2]
    unfold updF
    by_cases h : k = j
    · rw [if_pos h, if_pos h.symm]
    · rw [if_neg h, if_neg (fun e => h e.symm)]
def flo (N : Nat) (g : Nat → Nat) : Array Value := ((List.range N).map fun k => Value.float .f32 (g k)).toArray
theorem flo_get {N k : Nat} (g : Nat → Nat) (hk : k < N) : (flo N g)[k]? = some (.float .f32 (g k)) := by
  unfold flo
  rw [List.getElem?_toArray, List.getElem?_map, List.getElem?_range hk]
  rfl
theorem flo_set {N k : Nat} (g : Nat → Nat) (v : Nat) : (flo N g).setIfInBounds k (.float .f32 v) = flo N (updF g k v) := by
  apply Array.ext
  · simp [flo]
  · intro j h1 h2
    have hj : j < N := by simpa [flo] using h2
    have e1 : (flo N (updF g k v))[j] = .float .f32 (updF g k v j) := by simp [flo]
    have e2 : (flo N g)[j]'(by simpa [flo] using hj) = .float .f32 (g j) := by simp [flo]
    rw [Array.getElem_setIfInBounds (by simpa [flo] using hj), e1, e2]
    unfold updF
    by_cases h : k = j
    · rw [if_pos h, if_pos h.symm]
    · rw [if_neg h, if_neg (fun e => h e.symm)]

/-- what prices holds in memory: what it returns, done, and the heap -/
structure FM (W0 w : World) (ho hh gd gs go : Nat) (N src : Nat) (done seen : Nat → Bool) (out : Nat → Nat) (v : Value) (xs : List SpR) (q : Bool) : Prop where
  dg : Bk w gd 4 (bools N done)
  eg : Bk w gs 4 (bools N seen)
  ob : Bk w ho 124 #[.int .i64 src, .slice (some ⟨go, 0, none⟩) N N, .slice (some ⟨gs, 0, none⟩) N N]
  og : Bk w go 27 (flo N out)
  pb : Bk w hh 171 #[v]
  own : OwnS w W0.heap.size v xs
  fin : AllFin xs
  hq : q = true → HeapFrom leS xs xs.length 0
  ext : Ext W0 w
  n1 : gd ≠ gs
  b1 : W0.heap.size ≤ gd
  b2 : W0.heap.size ≤ gs
  b3 : W0.heap.size ≤ go
  b4 : W0.heap.size ≤ hh
section
variable {W0 w : World} {ho hh gd gs go : Nat} {N src : Nat} {done seen : Nat → Bool} {out : Nat → Nat} {v : Value} {xs : List SpR} {q : Bool}
theorem HpS.ext {base : Nat} (h : HpS w base hh v xs) {w' : World} (hx : Ext w w') : HpS w' base hh v xs := ⟨h.pb.ext hx, h.own.ext hx, h.heap, h.fin⟩
theorem FM.step (h : FM W0 w ho hh gd gs go N src done seen out v xs q) {w' : World} (hx : Ext w w') : FM W0 w' ho hh gd gs go N src done seen out v xs q :=
  ⟨h.dg.ext hx, h.eg.ext hx, h.ob.ext hx, h.og.ext hx, h.pb.ext hx, h.own.ext hx, h.fin, h.hq, h.ext.trans hx, h.n1, h.b1, h.b2, h.b3, h.b4⟩
theorem OwnS.set {base g i : Nat} {t : TypeId} {cs : Array Value} (h : OwnS w base v xs) (hg : Bk w g t cs) (hne : 169 ≠ t) (u : Value) : OwnS (w.setCell ⟨g, i, none⟩ u) base v xs :=
  ownsRow_setCell_other h (fun e => own_ne h hg hne e.symm) u
/-- two cells are written -/
theorem FM.put (h : FM W0 w ho hh gd gs go N src done seen out v xs q) (k x : Nat) : FM W0 ((w.setCell ⟨go, k, none⟩ (.float .f32 x)).setCell ⟨gs, k, none⟩ (.bool true)) ho hh gd gs go N src done (updF seen k true) (updF out k x) v xs q := by
  have e1 := Bk.set h.og k (.float .f32 x)
  rw [flo_set] at e1
  have f1 : ∀ {g : Nat} {t : TypeId} {cs : Array Value}, Bk w g t cs → g ≠ go → Bk (w.setCell ⟨go, k, none⟩ (.float .f32 x)) g t cs := fun hb hn => hb.far hn _
  have eg := f1 h.eg (Bk.ne h.eg h.og (by decide))
  have e2 := Bk.set eg k (.bool true)
  rw [bools_set] at e2
  have f2 : ∀ {g : Nat} {t : TypeId} {cs : Array Value}, Bk (w.setCell ⟨go, k, none⟩ (.float .f32 x)) g t cs → g ≠ gs → Bk ((w.setCell ⟨go, k, none⟩ (.float .f32 x)).setCell ⟨gs, k, none⟩ (.bool true)) g t cs := fun hb hn => hb.far hn _
  have own := (h.own.set (i := k) h.og (by decide) (.float .f32 x)).set (i := k) eg (by decide) (.bool true)
  exact ⟨f2 (f1 h.dg (Bk.ne h.dg h.og (by decide))) h.n1, e2, f2 (f1 h.ob (Bk.ne h.ob h.og (by decide))) (Bk.ne h.ob h.eg (by decide)), f2 e1 (Bk.ne h.og h.eg (by decide)),
    f2 (f1 h.pb (Bk.ne h.pb h.og (by decide))) (Bk.ne h.pb h.eg (by decide)), own, h.fin, h.hq, (h.ext.setCell h.b3 _).setCell h.b2 _, h.n1, h.b1, h.b2, h.b3, h.b4⟩
/-- the heap has changed -/
theorem FM.heap2 (h : FM W0 w ho hh gd gs go N src done seen out v xs q) {w' : World} {v' : Value} {ys : List SpR} (hf' : Fr w w' hh v.ownBlock) (pb : Bk w' hh 171 #[v']) (own : OwnS w' W0.heap.size v' ys) (fin : AllFin ys) (q' : Bool) (hq : q' = true → HeapFrom leS ys ys.length 0) : FM W0 w' ho hh gd gs go N src done seen out v' ys q' := by
  have g1 : ∀ {g : Nat} {t : TypeId} {cs : Array Value}, Bk w g t cs → 171 ≠ t → 169 ≠ t → Bk w' g t cs := fun hb n1 n2 => hf'.bk hb (Bk.ne h.pb hb n1).symm (own_ne h.own hb n2)
  exact ⟨g1 h.dg (by decide) (by decide), g1 h.eg (by decide) (by decide), g1 h.ob (by decide) (by decide), g1 h.og (by decide) (by decide), pb, own, fin, hq,
    hf'.to_ext h.ext h.b4 (fun k hk => (World.ownsRow.lt h.own k hk).1), h.n1, h.b1, h.b2, h.b3, h.b4⟩
theorem FM.heap (h : FM W0 w ho hh gd gs go N src done seen out v xs q) {w' : World} {v' : Value} {ys : List SpR} (hf' : Fr w w' hh v.ownBlock) (hp' : HpS w' W0.heap.size hh v' ys) : FM W0 w' ho hh gd gs go N src done seen out v' ys true :=
  h.heap2 hf' hp'.pb hp'.own hp'.fin true fun _ => hp'.heap
theorem FM.hps (h : FM W0 w ho hh gd gs go N src done seen out v xs true) : HpS w W0.heap.size hh v xs := ⟨h.pb, h.own, h.hq rfl, h.fin⟩
end

/-- what a step leaves -/
def Step1 (W0 : World) (ho hh gd gs go hs : Nat) (N src sv : Nat) (sk : Int) (done seen : Nat → Bool) (out : Nat → Nat) (v : Value) (xs : List SpR) (n x : Nat) (w' : World) : Prop :=
  ∃ v' ys, Bk w' hs 169 #[.float .f32 sv, .int .i64 sk] ∧ v'.ownBlock ≠ some hs ∧
    (goesR seen out n x = true ∧ ys.Perm (xs ++ [⟨x, n⟩]) ∧ FM W0 w' ho hh gd gs go N src done (updF seen n true) (updF out n x) v' ys true ∨
     goesR seen out n x = false ∧ ys = xs ∧ v' = v ∧ FM W0 w' ho hh gd gs go N src done seen out v ys true)

set_option maxRecDepth 100000 in
set_option maxHeartbeats 3200000 in
theorem prices1_any (W0 w : World) (ho hh gd gs go hs : Nat) (N src sv : Nat) (sk : Int) (done seen : Nat → Bool) (out : Nat → Nat) (v : Value) (xs : List SpR) (n c : Nat)
    (hF : FM W0 w ho hh gd gs go N src done seen out v xs true) (hS : Bk w hs 169 #[.float .f32 sv, .int .i64 sk]) (hne : v.ownBlock ≠ some hs) (hn : n < N)
    (hadd : floatBits .add .f32 sv c = some (fadd sv c)) (hfin : Fin (fadd sv c)) (hlen : xs.length ≤ 90000000) :
    Calls Try.prog 126 #[.int .i64 n, .float .f32 c, .pointer (some ⟨hs, 0, none⟩), .pointer (some ⟨ho, 0, none⟩), .pointer (some ⟨hh, 0, none⟩)] w fun e w' => e = .returned (.tuple #[]) ∧ (∀ g t cs, Bk w g t cs → 171 ≠ t → 169 ≠ t → 27 ≠ t → 4 ≠ t → Bk w' g t cs) ∧
      Step1 W0 ho hh gd gs go hs N src sv sk done seen out v xs n (fadd sv c) w' := by
  have s0 := hS.cell 0
  have e1 : w.cell? ⟨gs, n, none⟩ = some (.bool (seen n)) := by rw [hF.eg.cell]; exact bools_get _ hn
  have o0 := hF.ob.cell 0
  have o2 := hF.ob.cell 1
  have o3 := hF.ob.cell 2
  have o1 : w.cell? ⟨go, n, none⟩ = some (.float .f32 (out n)) := by rw [hF.og.cell]; exact flo_get _ hn
  have i0 : (0 : Int) ≤ n := by omega
  have i1 : (n : Int) < N := by omega
  have f1 := hF.eg.frozen n
  have f2 := hF.og.frozen n
  have hgo : go ≠ gs := Bk.ne hF.og hF.eg (by decide)
  have Hgo := hidA hgo
  have hrun := fun (w : World) => run_float_arith (P := Try.prog) w .add 27 .f32 _ _ _ hadd
  generalize fadd sv c = x at *
  have hput := hF.put n x
  have hP := fun (w' : World) (hw : Ext ((w.setCell ⟨go, n, none⟩ (.float .f32 x)).setCell ⟨gs, n, none⟩ (.bool true)) w') => hidA (HPush_any hh W0.heap.size v xs ⟨x, (n : Int)⟩ w' (hput.step hw).hps hfin (by have := (hput.step hw).ext.size; exact this) (by omega))
  have HF := hidA hF
  have HPut := hidA hput
  have Hne := hidA hne
  have hS5 : Bk ((w.setCell ⟨go, n, none⟩ (.float .f32 x)).setCell ⟨gs, n, none⟩ (.bool true)) hs 169 #[.float .f32 sv, .int .i64 sk] := (hS.far (Bk.ne hS hF.og (by decide)) _).far (Bk.ne hS hF.eg (by decide)) _
  have hR5 : ∀ g t cs, Bk w g t cs → 27 ≠ t → 4 ≠ t → Bk ((w.setCell ⟨go, n, none⟩ (.float .f32 x)).setCell ⟨gs, n, none⟩ (.bool true)) g t cs := fun g t cs hb n1 n2 => (hb.far (Bk.ne hb hF.og n1.symm) _).far (Bk.ne hb hF.eg n2.symm) _
  have hS2 := hidA hS
  have HS5 := hidA hS5
  have HR5 := hidA hR5
  clear hput hF hne hS hS5 hR5 hgo hadd
  go_enter Try.func126, Try.ntmps126
  cases hsn : seen n
  · rw [hsn] at e1
    have hgb : Hid (goesR seen out n x = true) := by show _ = _; simp [goesR, hsn]
    have q1 : (w.setCell ⟨go, n, none⟩ (.float .f32 x)).cell? ⟨gs, n, none⟩ = some (.bool (seen n)) := by rw [(HF.out.eg.far (p := ⟨go, n, none⟩) (Ne.symm Hgo.out) (.float .f32 x)).cell]; exact bools_get _ hn
    have q2 : (w.setCell ⟨gs, n, none⟩ (.bool true)).cell? ⟨go, n, none⟩ = some (.float .f32 (out n)) := by rw [(HF.out.og.far (p := ⟨gs, n, none⟩) Hgo.out (.bool true)).cell]; exact flo_get _ hn
    have q3 : (w.setCell ⟨go, n, none⟩ (.float .f32 x)).cell? ⟨ho, 2, none⟩ = some (.slice (some ⟨gs, 0, none⟩) N N) := (HF.out.ob.far (p := ⟨go, n, none⟩) (Bk.ne HF.out.ob HF.out.og (by decide)) (.float .f32 x)).cell 2
    have q4 : (w.setCell ⟨gs, n, none⟩ (.bool true)).cell? ⟨ho, 1, none⟩ = some (.slice (some ⟨go, 0, none⟩) N N) := (HF.out.ob.far (p := ⟨gs, n, none⟩) (Bk.ne HF.out.ob HF.out.eg (by decide)) (.bool true)).cell 1
    go_upto_region 2 with fail
    go_region
    clear q1 q2 q3 q4 s0 e1 o0 o1 o2 o3 f1 f2
    go_wp2_with (go_at_call 127; refine ((hP _ (by repeat (first | exact Ext.refl _ | assumption | refine Ext.setCell ?_ (by first | (simp; done) | (simp; omega)) _ | refine Ext.drewN ?_ _ | refine Ext.alloc ?_ _ | refine Ext.drew ?_ | refine Ext.trans ?_ (by assumption)))).out).mono ?_; rintro e w3 ⟨rfl, v', ys, hp, hps, hob, hfr⟩)
    refine bodyPost_end (results_none Try.results126 _ _ _) rfl ?_
    have hF5 := HPut.out.step (Ext.drew (Ext.refl _))
    have hS6 := Bk.drew HS5.out
    refine ⟨rfl, fun g t cs hb m1 m2 m3 m4 => hfr.bk (Bk.drew (HR5.out g t cs hb m3 m4)) (Bk.ne hF5.pb (Bk.drew (HR5.out g t cs hb m3 m4)) m1).symm (own_ne hF5.own (Bk.drew (HR5.out g t cs hb m3 m4)) m2), ⟨v', ys, hfr.bk hS6 (Bk.ne hF5.pb hS6 (by decide)).symm (fun e => Hne.out e.symm), fun e => ?_, .inl ⟨hgb.out, hp, hF5.heap hfr hps⟩⟩⟩
    rcases hob hs e with h1 | h1
    · exact Hne.out h1
    · have := hS6.lt
      omega
  · rw [hsn] at e1
    cases hlt : lt x (out n)
    · have hlt' : (FloatKind.f32.format.order x (out n) == some .lt) = false := hlt
      have hgb : Hid (goesR seen out n x = false) := by show _ = _; simp [goesR, hsn, hlt]
      clear hlt hP hfin
      go_wp2
      refine bodyPost_end (results_none Try.results126 _ _ _) rfl ?_
      exact ⟨rfl, fun g t cs hb _ _ _ _ => hb, ⟨v, xs, hS2.out, Hne.out, .inr ⟨hgb.out, rfl, rfl, HF.out⟩⟩⟩
    · have hlt' : (FloatKind.f32.format.order x (out n) == some .lt) = true := hlt
      have hgb : Hid (goesR seen out n x = true) := by show _ = _; simp [goesR, hsn, hlt]
      clear hlt
      have q1 : (w.setCell ⟨go, n, none⟩ (.float .f32 x)).cell? ⟨gs, n, none⟩ = some (.bool (seen n)) := by rw [(HF.out.eg.far (p := ⟨go, n, none⟩) (Ne.symm Hgo.out) (.float .f32 x)).cell]; exact bools_get _ hn
      have q2 : (w.setCell ⟨gs, n, none⟩ (.bool true)).cell? ⟨go, n, none⟩ = some (.float .f32 (out n)) := by rw [(HF.out.og.far (p := ⟨gs, n, none⟩) Hgo.out (.bool true)).cell]; exact flo_get _ hn
      have q3 : (w.setCell ⟨go, n, none⟩ (.float .f32 x)).cell? ⟨ho, 2, none⟩ = some (.slice (some ⟨gs, 0, none⟩) N N) := (HF.out.ob.far (p := ⟨go, n, none⟩) (Bk.ne HF.out.ob HF.out.og (by decide)) (.float .f32 x)).cell 2
      have q4 : (w.setCell ⟨gs, n, none⟩ (.bool true)).cell? ⟨ho, 1, none⟩ = some (.slice (some ⟨go, 0, none⟩) N N) := (HF.out.ob.far (p := ⟨gs, n, none⟩) (Bk.ne HF.out.ob HF.out.eg (by decide)) (.bool true)).cell 1
      go_upto_region 2 with fail
      go_region
      clear q1 q2 q3 q4 s0 e1 o0 o1 o2 o3 f1 f2
      go_wp2_with (go_at_call 127; refine ((hP _ (by repeat (first | exact Ext.refl _ | assumption | refine Ext.setCell ?_ (by first | (simp; done) | (simp; omega)) _ | refine Ext.drewN ?_ _ | refine Ext.alloc ?_ _ | refine Ext.drew ?_ | refine Ext.trans ?_ (by assumption)))).out).mono ?_; rintro e w3 ⟨rfl, v', ys, hp, hps, hob, hfr⟩)
      refine bodyPost_end (results_none Try.results126 _ _ _) rfl ?_
      have hF5 := HPut.out.step (Ext.drew (Ext.refl _))
      have hS6 := Bk.drew HS5.out
      refine ⟨rfl, fun g t cs hb m1 m2 m3 m4 => hfr.bk (Bk.drew (HR5.out g t cs hb m3 m4)) (Bk.ne hF5.pb (Bk.drew (HR5.out g t cs hb m3 m4)) m1).symm (own_ne hF5.own (Bk.drew (HR5.out g t cs hb m3 m4)) m2), ⟨v', ys, hfr.bk hS6 (Bk.ne hF5.pb hS6 (by decide)).symm (fun e => Hne.out e.symm), fun e => ?_, .inl ⟨hgb.out, hp, hF5.heap hfr hps⟩⟩⟩
      rcases hob hs e with h1 | h1
      · exact Hne.out h1
      · have := hS6.lt
        omega
end Go.Proofs.Ytpgdinpckolfpaa
