/- Contract: water.filled$1: a neighbour of the cell that is looked at. -/
import Derived.Test.YtinohfgokpbcdaaFillQ
import Derived.Test.YtinohfgokpbcdaaHeapD
namespace Go.Proofs.Ytinohfgokpbcdaa
open Go.RowKit
attribute [local go_sem ↓] Go.wp_at_zero Go.wp_at_succ
attribute [local go_sem] run_store_float

def bools (m : Nat) (b : Nat → Bool) : Array Value := ((List.range m).map fun k => Value.bool (b k)).toArray
theorem bools_get {m k : Nat} (b : Nat → Bool) (hk : k < m) : (bools m b)[k]? = some (.bool (b k)) := by
  unfold bools
  rw [List.getElem?_toArray, List.getElem?_map, List.getElem?_range hk]
  rfl
theorem bools_set {m k : Nat} (b : Nat → Bool) (x : Bool) : (bools m b).setIfInBounds k (.bool x) = bools m (updF b k x) := by
  apply Array.ext
  · simp [bools]
  · intro j h1 h2
    have hj : j < m := by simpa [bools] using h2
    have e1 : (bools m (updF b k x))[j] = .bool (updF b k x j) := by simp [bools]
    have e2 : (bools m b)[j]'(by simpa [bools] using hj) = .bool (b j) := by simp [bools]
    rw [Array.getElem_setIfInBounds (by simpa [bools] using hj), e1, e2]
    unfold updF
    by_cases h : k = j
    · rw [if_pos h, if_pos h.symm]
    · rw [if_neg h, if_neg (fun e => h e.symm)]
theorem bools_congr {m : Nat} {f g : Nat → Bool} (h : ∀ k, k < m → f k = g k) : bools m f = bools m g := by
  unfold bools
  congr 1
  apply List.map_congr_left
  intro k hk
  rw [h k (List.mem_range.1 hk)]
def flo (N : Nat) (g : Nat → Nat) : Array Value := ((List.range N).map fun k => Value.float .f32 (g k)).toArray
theorem flo_get {N k : Nat} (g : Nat → Nat) (hk : k < N) : (flo N g)[k]? = some (.float .f32 (g k)) := by
  unfold flo
  rw [List.getElem?_toArray, List.getElem?_map, List.getElem?_range hk]
  rfl
theorem flo_set {N k : Nat} (g : Nat → Nat) (v : Nat) : (flo N g).setIfInBounds k (.float .f32 v) = flo N (updF g k v) := by
  apply Array.ext
  · simp [flo]
  · intro j h1 h2
    have hj : j < N := by simpa [flo] using h2
    have e1 : (flo N (updF g k v))[j] = .float .f32 (updF g k v j) := by simp [flo]
    have e2 : (flo N g)[j]'(by simpa [flo] using hj) = .float .f32 (g j) := by simp [flo]
    rw [Array.getElem_setIfInBounds (by simpa [flo] using hj), e1, e2]
    unfold updF
    by_cases h : k = j
    · rw [if_pos h, if_pos h.symm]
    · rw [if_neg h, if_neg (fun e => h e.symm)]
theorem flo_list (N : Nat) (g : Nat → Nat) : (flo N g).toList = flt ((List.range N).map g) := by simp [flo, flt]

/-- what filled holds in memory: the field, the slope, done, seen, out, and the heap -/
structure FM (W0 w : World) (hf hsl hd hse ho hh gd gs go : Nat) (X Y : Int) (Wn Hn N : Nat) (A : Option Addr) (c slope : Nat) (done seen : Nat → Bool) (out : Nat → Nat) (v : Value) (xs : List SpR) (q : Bool) : Prop where
  fb : Bk w hf 26 #[.int .i64 X, .int .i64 Y, .int .i64 (Wn : Int), .int .i64 (Hn : Int), .slice A N c]
  sl : Bk w hsl 27 #[.float .f32 slope]
  db : Bk w hd 99 #[.slice (some ⟨gd, 0, none⟩) N N]
  dg : Bk w gd 4 (bools N done)
  eb : Bk w hse 99 #[.slice (some ⟨gs, 0, none⟩) N N]
  eg : Bk w gs 4 (bools N seen)
  ob : Bk w ho 24 #[.slice (some ⟨go, 0, none⟩) N N]
  og : Bk w go 27 (flo N out)
  pb : Bk w hh 171 #[v]
  own : OwnS w W0.heap.size v xs
  fin : AllFin xs
  hq : q = true → HeapFrom leS xs xs.length 0
  ext : Ext W0 w
  n1 : gd ≠ gs
  n2 : go ≠ hsl
  b1 : W0.heap.size ≤ gd
  b2 : W0.heap.size ≤ gs
  b3 : W0.heap.size ≤ go
  b4 : W0.heap.size ≤ hh
section
variable {W0 w : World} {hf hsl hd hse ho hh gd gs go : Nat} {X Y : Int} {Wn Hn N : Nat} {A : Option Addr} {c slope : Nat} {done seen : Nat → Bool} {out : Nat → Nat} {v : Value} {xs : List SpR} {q : Bool}
theorem HpS.ext {base : Nat} (h : HpS w base hh v xs) {w' : World} (hx : Ext w w') : HpS w' base hh v xs := ⟨h.pb.ext hx, h.own.ext hx, h.heap, h.fin⟩
theorem FM.step (h : FM W0 w hf hsl hd hse ho hh gd gs go X Y Wn Hn N A c slope done seen out v xs q) {w' : World} (hx : Ext w w') : FM W0 w' hf hsl hd hse ho hh gd gs go X Y Wn Hn N A c slope done seen out v xs q :=
  ⟨h.fb.ext hx, h.sl.ext hx, h.db.ext hx, h.dg.ext hx, h.eb.ext hx, h.eg.ext hx, h.ob.ext hx, h.og.ext hx, h.pb.ext hx, h.own.ext hx, h.fin, h.hq, h.ext.trans hx, h.n1, h.n2, h.b1, h.b2, h.b3, h.b4⟩
theorem OwnS.set {base g i : Nat} {t : TypeId} {cs : Array Value} (h : OwnS w base v xs) (hg : Bk w g t cs) (hne : 173 ≠ t) (u : Value) : OwnS (w.setCell ⟨g, i, none⟩ u) base v xs :=
  ownsRow_setCell_other h (fun e => own_ne h hg hne e.symm) u
/-- two cells are written -/
theorem FM.put (h : FM W0 w hf hsl hd hse ho hh gd gs go X Y Wn Hn N A c slope done seen out v xs q) (k x : Nat) : FM W0 ((w.setCell ⟨go, k, none⟩ (.float .f32 x)).setCell ⟨gs, k, none⟩ (.bool true)) hf hsl hd hse ho hh gd gs go X Y Wn Hn N A c slope done (updF seen k true) (updF out k x) v xs q := by
  have e1 := Bk.set h.og k (.float .f32 x)
  rw [flo_set] at e1
  have f1 : ∀ {g : Nat} {t : TypeId} {cs : Array Value}, Bk w g t cs → g ≠ go → Bk (w.setCell ⟨go, k, none⟩ (.float .f32 x)) g t cs := fun hb hn => hb.far hn _
  have eg := f1 h.eg (Bk.ne h.eg h.og (by decide))
  have e2 := Bk.set eg k (.bool true)
  rw [bools_set] at e2
  have f2 : ∀ {g : Nat} {t : TypeId} {cs : Array Value}, Bk (w.setCell ⟨go, k, none⟩ (.float .f32 x)) g t cs → g ≠ gs → Bk ((w.setCell ⟨go, k, none⟩ (.float .f32 x)).setCell ⟨gs, k, none⟩ (.bool true)) g t cs := fun hb hn => hb.far hn _
  have own := (h.own.set (i := k) h.og (by decide) (.float .f32 x)).set (i := k) eg (by decide) (.bool true)
  exact ⟨f2 (f1 h.fb (Bk.ne h.fb h.og (by decide))) (Bk.ne h.fb h.eg (by decide)), f2 (f1 h.sl h.n2.symm) (Bk.ne h.sl h.eg (by decide)), f2 (f1 h.db (Bk.ne h.db h.og (by decide))) (Bk.ne h.db h.eg (by decide)), f2 (f1 h.dg (Bk.ne h.dg h.og (by decide))) h.n1,
    f2 (f1 h.eb (Bk.ne h.eb h.og (by decide))) (Bk.ne h.eb h.eg (by decide)), e2, f2 (f1 h.ob (Bk.ne h.ob h.og (by decide))) (Bk.ne h.ob h.eg (by decide)), f2 e1 (Bk.ne h.og h.eg (by decide)),
    f2 (f1 h.pb (Bk.ne h.pb h.og (by decide))) (Bk.ne h.pb h.eg (by decide)), own, h.fin, h.hq, (h.ext.setCell h.b3 _).setCell h.b2 _, h.n1, h.n2, h.b1, h.b2, h.b3, h.b4⟩
/-- the heap has changed -/
theorem FM.heap (h : FM W0 w hf hsl hd hse ho hh gd gs go X Y Wn Hn N A c slope done seen out v xs q) {w' : World} {v' : Value} {ys : List SpR} (hf' : Fr w w' hh v.ownBlock) (hp' : HpS w' W0.heap.size hh v' ys) : FM W0 w' hf hsl hd hse ho hh gd gs go X Y Wn Hn N A c slope done seen out v' ys true := by
  have g1 : ∀ {g : Nat} {t : TypeId} {cs : Array Value}, Bk w g t cs → 171 ≠ t → 173 ≠ t → Bk w' g t cs := fun hb n1 n2 => hf'.bk hb (Bk.ne h.pb hb n1).symm (own_ne h.own hb n2)
  exact ⟨g1 h.fb (by decide) (by decide), g1 h.sl (by decide) (by decide), g1 h.db (by decide) (by decide), g1 h.dg (by decide) (by decide), g1 h.eb (by decide) (by decide), g1 h.eg (by decide) (by decide), g1 h.ob (by decide) (by decide), g1 h.og (by decide) (by decide), hp'.pb, hp'.own, hp'.fin, fun _ => hp'.heap,
    hf'.to_ext h.ext h.b4 (fun k hk => (World.ownsRow.lt h.own k hk).1), h.n1, h.n2, h.b1, h.b2, h.b3, h.b4⟩
theorem FM.hps (h : FM W0 w hf hsl hd hse ho hh gd gs go X Y Wn Hn N A c slope done seen out v xs true) : HpS w W0.heap.size hh v xs := ⟨h.pb, h.own, h.hq rfl, h.fin⟩
end

/-- whether a neighbour is reached anew, or by a lesser spill -/
def goesB (done seen : Nat → Bool) (out : Nat → Nat) (n x : Nat) : Bool := !done n && (!seen n || lt x (out n))

/-- what a neighbour leaves -/
def Fill1 (W0 : World) (hf hsl hd hse ho hh gd gs go hs : Nat) (X Y : Int) (Wn Hn N : Nat) (A : Option Addr) (c slope sv : Nat) (sk : Int) (done seen : Nat → Bool) (out : Nat → Nat) (v : Value) (xs : List SpR) (n x : Nat) (w' : World) : Prop :=
  ∃ v' ys, Bk w' hs 173 #[.float .f32 sv, .int .i64 sk] ∧ v'.ownBlock ≠ some hs ∧
    (goesB done seen out n x = true ∧ ys.Perm (xs ++ [⟨x, n⟩]) ∧ FM W0 w' hf hsl hd hse ho hh gd gs go X Y Wn Hn N A c slope done (updF seen n true) (updF out n x) v' ys true ∨
     goesB done seen out n x = false ∧ ys = xs ∧ v' = v ∧ FM W0 w' hf hsl hd hse ho hh gd gs go X Y Wn Hn N A c slope done seen out v ys true)

set_option maxRecDepth 100000 in
set_option maxHeartbeats 3200000 in
theorem fill1_any (W0 w : World) (hf hsl hd hse ho hh gd gs go hs : Nat) (X Y : Int) (Wn Hn N : Nat) (A : Option Addr) (c slope sv : Nat) (sk : Int) (done seen : Nat → Bool) (out : Nat → Nat) (v : Value) (xs : List SpR) (l : List Nat) (n d : Nat)
    (hF : FM W0 w hf hsl hd hse ho hh gd gs go X Y Wn Hn N A c slope done seen out v xs true) (hS : Bk w hs 173 #[.float .f32 sv, .int .i64 sk]) (hne : v.ownBlock ≠ some hs) (hl : l.length = N) (hV : Rd W0 A (flt l)) (hn : n < N)
    (hadd : floatBits .add .f32 sv slope = some (fadd sv slope)) (hfin : Fin (relV (l.getD n 0) slope sv)) (hlen : xs.length ≤ 10000000) :
    Calls Try.prog 138 #[.int .i64 n, .int .i64 d, .pointer (some ⟨hf, 0, none⟩), .pointer (some ⟨hs, 0, none⟩), .pointer (some ⟨hsl, 0, none⟩), .pointer (some ⟨hd, 0, none⟩), .pointer (some ⟨hse, 0, none⟩), .pointer (some ⟨ho, 0, none⟩), .pointer (some ⟨hh, 0, none⟩)] w fun e w' => e = .returned (.tuple #[]) ∧ (∀ g cs, Bk w g 23 cs → Bk w' g 23 cs) ∧
      Fill1 W0 hf hsl hd hse ho hh gd gs go hs X Y Wn Hn N A c slope sv sk done seen out v xs n (relV (l.getD n 0) slope sv) w' := by
  have hnl : n < l.length := by omega
  obtain ⟨ad, rfl, hbk, hcv⟩ := (hV.ext hF.ext).at (k := n) (by rw [flt_length]; exact hnl)
  have c6 := hcv n _ (flt_get hnl)
  have el : l.getD n 0 = l[n] := by simp [List.getD_eq_getElem?_getD, hnl]
  rw [el] at hfin ⊢
  generalize l[n] = h at *
  clear el hcv hV hnl hl
  have c4 := hF.fb.cell 4
  have s0 := hS.cell 0
  have s1 := hF.sl.cell 0
  have d0 := hF.db.cell 0
  have d1 : w.cell? ⟨gd, n, none⟩ = some (.bool (done n)) := by rw [hF.dg.cell]; exact bools_get _ hn
  have e0 := hF.eb.cell 0
  have e1 : w.cell? ⟨gs, n, none⟩ = some (.bool (seen n)) := by rw [hF.eg.cell]; exact bools_get _ hn
  have o0 := hF.ob.cell 0
  have o1 : w.cell? ⟨go, n, none⟩ = some (.float .f32 (out n)) := by rw [hF.og.cell]; exact flo_get _ hn
  have i0 : (0 : Int) ≤ n := by omega
  have i1 : (n : Int) < N := by omega
  have f1 := hF.eg.frozen n
  have f2 := hF.og.frozen n
  have hgo : go ≠ gs := Bk.ne hF.og hF.eg (by decide)
  have Hgo := hidA hgo
  obtain ⟨x, hx⟩ : ∃ x, x = relV h slope sv := ⟨_, rfl⟩
  have Hx := hidA hx
  rw [← hx] at hfin ⊢
  have hput := hF.put n x
  have hP := fun (w' : World) (hw : Ext ((w.setCell ⟨go, n, none⟩ (.float .f32 x)).setCell ⟨gs, n, none⟩ (.bool true)) w') => hidA (HPush_any hh W0.heap.size v xs ⟨x, (n : Int)⟩ w' (hput.step hw).hps hfin (by have := (hput.step hw).ext.size; exact this) (by omega))
  have HF := hidA hF
  have HPut := hidA hput
  have Hne := hidA hne
  have hS5 : Bk ((w.setCell ⟨go, n, none⟩ (.float .f32 x)).setCell ⟨gs, n, none⟩ (.bool true)) hs 173 #[.float .f32 sv, .int .i64 sk] := (hS.far (Bk.ne hS hF.og (by decide)) _).far (Bk.ne hS hF.eg (by decide)) _
  have hR5 : ∀ g cs, Bk w g 23 cs → Bk ((w.setCell ⟨go, n, none⟩ (.float .f32 x)).setCell ⟨gs, n, none⟩ (.bool true)) g 23 cs := fun g cs hb => (hb.far (Bk.ne hb hF.og (by decide)) _).far (Bk.ne hb hF.eg (by decide)) _
  have hS2 := hidA hS
  have HS5 := hidA hS5
  have HR5 := hidA hR5
  clear hx hput hF hne hS hS5 hR5 hgo
  have hrun := fun (w : World) => run_float_arith (P := Try.prog) w .add 27 .f32 _ _ _ hadd
  clear hadd
  cases hg : gt (fadd sv slope) h
  · have hxe : x = h := by rw [Hx.out]; unfold relV; rw [if_neg (by rw [hg]; decide)]
    have hg' : (FloatKind.f32.format.order (fadd sv slope) h == some .gt) = false := hg
    clear hg Hx
    subst hxe
    go_enter Try.func138, Try.ntmps138
    go_upto_region 4 with fail
    clear hg' hrun
    cases hdn : done n
    · rw [hdn] at d1
      cases hsn : seen n
      · rw [hsn] at e1
        have hgb : Hid (goesB done seen out n x = true) := by show _ = _; simp [goesB, hdn, hsn]
        have q1 : (w.setCell ⟨go, n, none⟩ (.float .f32 x)).cell? ⟨gs, n, none⟩ = some (.bool (seen n)) := by rw [(HF.out.eg.far (p := ⟨go, n, none⟩) (Ne.symm Hgo.out) (.float .f32 x)).cell]; exact bools_get _ hn
        have q2 : (w.setCell ⟨gs, n, none⟩ (.bool true)).cell? ⟨go, n, none⟩ = some (.float .f32 (out n)) := by rw [(HF.out.og.far (p := ⟨gs, n, none⟩) Hgo.out (.bool true)).cell]; exact flo_get _ hn
        have q3 : (w.setCell ⟨go, n, none⟩ (.float .f32 x)).cell? ⟨hse, 0, none⟩ = some (.slice (some ⟨gs, 0, none⟩) N N) := (HF.out.eb.far (p := ⟨go, n, none⟩) (Bk.ne HF.out.eb HF.out.og (by decide)) (.float .f32 x)).cell 0
        have q4 : (w.setCell ⟨gs, n, none⟩ (.bool true)).cell? ⟨ho, 0, none⟩ = some (.slice (some ⟨go, 0, none⟩) N N) := (HF.out.ob.far (p := ⟨gs, n, none⟩) (Bk.ne HF.out.ob HF.out.eg (by decide)) (.bool true)).cell 0
        go_upto_region 5 with fail
        go_region
        clear q1 q2 q3 q4 c4 s0 s1 d0 d1 e0 e1 o0 o1 c6 f1 f2
        go_wp2_with (go_at_call 139; refine ((hP _ (by repeat (first | exact Ext.refl _ | assumption | refine Ext.setCell ?_ (by first | (simp; done) | (simp; omega)) _ | refine Ext.drewN ?_ _ | refine Ext.alloc ?_ _ | refine Ext.drew ?_ | refine Ext.trans ?_ (by assumption)))).out).mono ?_; rintro e w3 ⟨rfl, v', ys, hp, hps, hob, hfr⟩)
        refine bodyPost_end (results_none Try.results138 _ _ _) rfl ?_
        have hF5 := HPut.out.step (Ext.drew (Ext.refl _))
        have hS6 := Bk.drew HS5.out
        refine ⟨rfl, fun g cs hb => hfr.bk (Bk.drew (HR5.out g cs hb)) (Bk.ne hF5.pb (Bk.drew (HR5.out g cs hb)) (by decide)).symm (own_ne hF5.own (Bk.drew (HR5.out g cs hb)) (by decide)), ⟨v', ys, hfr.bk hS6 (Bk.ne hF5.pb hS6 (by decide)).symm (fun e => Hne.out e.symm), fun e => ?_, .inl ⟨hgb.out, hp, hF5.heap hfr hps⟩⟩⟩
        rcases hob hs e with h1 | h1
        · exact Hne.out h1
        · have := hS6.lt
          omega
      · rw [hsn] at e1
        cases hlt : lt x (out n)
        · have hlt' : (FloatKind.f32.format.order x (out n) == some .lt) = false := hlt
          have hgb : Hid (goesB done seen out n x = false) := by show _ = _; simp [goesB, hdn, hsn, hlt]
          go_wp2
          refine bodyPost_end (results_none Try.results138 _ _ _) rfl ?_
          exact ⟨rfl, fun g cs hb => hb, ⟨v, xs, hS2.out, Hne.out, .inr ⟨hgb.out, rfl, rfl, HF.out⟩⟩⟩
        · have hlt' : (FloatKind.f32.format.order x (out n) == some .lt) = true := hlt
          have hgb : Hid (goesB done seen out n x = true) := by show _ = _; simp [goesB, hdn, hsn, hlt]
          have q1 : (w.setCell ⟨go, n, none⟩ (.float .f32 x)).cell? ⟨gs, n, none⟩ = some (.bool (seen n)) := by rw [(HF.out.eg.far (p := ⟨go, n, none⟩) (Ne.symm Hgo.out) (.float .f32 x)).cell]; exact bools_get _ hn
          have q2 : (w.setCell ⟨gs, n, none⟩ (.bool true)).cell? ⟨go, n, none⟩ = some (.float .f32 (out n)) := by rw [(HF.out.og.far (p := ⟨gs, n, none⟩) Hgo.out (.bool true)).cell]; exact flo_get _ hn
          have q3 : (w.setCell ⟨go, n, none⟩ (.float .f32 x)).cell? ⟨hse, 0, none⟩ = some (.slice (some ⟨gs, 0, none⟩) N N) := (HF.out.eb.far (p := ⟨go, n, none⟩) (Bk.ne HF.out.eb HF.out.og (by decide)) (.float .f32 x)).cell 0
          have q4 : (w.setCell ⟨gs, n, none⟩ (.bool true)).cell? ⟨ho, 0, none⟩ = some (.slice (some ⟨go, 0, none⟩) N N) := (HF.out.ob.far (p := ⟨gs, n, none⟩) (Bk.ne HF.out.ob HF.out.eg (by decide)) (.bool true)).cell 0
          go_upto_region 5 with fail
          go_region
          clear q1 q2 q3 q4 c4 s0 s1 d0 d1 e0 e1 o0 o1 c6 f1 f2
          go_wp2_with (go_at_call 139; refine ((hP _ (by repeat (first | exact Ext.refl _ | assumption | refine Ext.setCell ?_ (by first | (simp; done) | (simp; omega)) _ | refine Ext.drewN ?_ _ | refine Ext.alloc ?_ _ | refine Ext.drew ?_ | refine Ext.trans ?_ (by assumption)))).out).mono ?_; rintro e w3 ⟨rfl, v', ys, hp, hps, hob, hfr⟩)
          refine bodyPost_end (results_none Try.results138 _ _ _) rfl ?_
          have hF5 := HPut.out.step (Ext.drew (Ext.refl _))
          have hS6 := Bk.drew HS5.out
          refine ⟨rfl, fun g cs hb => hfr.bk (Bk.drew (HR5.out g cs hb)) (Bk.ne hF5.pb (Bk.drew (HR5.out g cs hb)) (by decide)).symm (own_ne hF5.own (Bk.drew (HR5.out g cs hb)) (by decide)), ⟨v', ys, hfr.bk hS6 (Bk.ne hF5.pb hS6 (by decide)).symm (fun e => Hne.out e.symm), fun e => ?_, .inl ⟨hgb.out, hp, hF5.heap hfr hps⟩⟩⟩
          rcases hob hs e with h1 | h1
          · exact Hne.out h1
          · have := hS6.lt
            omega
    · rw [hdn] at d1
      have hgb : Hid (goesB done seen out n x = false) := by show _ = _; simp [goesB, hdn]
      go_wp2
      refine bodyPost_end (results_none Try.results138 _ _ _) rfl ?_
      exact ⟨rfl, fun g cs hb => hb, ⟨v, xs, hS2.out, Hne.out, .inr ⟨hgb.out, rfl, rfl, HF.out⟩⟩⟩
  · have hxe : x = fadd sv slope := by rw [Hx.out]; unfold relV; rw [if_pos hg]
    have hg' : (FloatKind.f32.format.order (fadd sv slope) h == some .gt) = true := hg
    clear hg Hx
    rw [← hxe] at hrun hg'
    clear hxe
    go_enter Try.func138, Try.ntmps138
    go_upto_region 4 with fail
    clear hg' hrun
    cases hdn : done n
    · rw [hdn] at d1
      cases hsn : seen n
      · rw [hsn] at e1
        have hgb : Hid (goesB done seen out n x = true) := by show _ = _; simp [goesB, hdn, hsn]
        have q1 : (w.setCell ⟨go, n, none⟩ (.float .f32 x)).cell? ⟨gs, n, none⟩ = some (.bool (seen n)) := by rw [(HF.out.eg.far (p := ⟨go, n, none⟩) (Ne.symm Hgo.out) (.float .f32 x)).cell]; exact bools_get _ hn
        have q2 : (w.setCell ⟨gs, n, none⟩ (.bool true)).cell? ⟨go, n, none⟩ = some (.float .f32 (out n)) := by rw [(HF.out.og.far (p := ⟨gs, n, none⟩) Hgo.out (.bool true)).cell]; exact flo_get _ hn
        have q3 : (w.setCell ⟨go, n, none⟩ (.float .f32 x)).cell? ⟨hse, 0, none⟩ = some (.slice (some ⟨gs, 0, none⟩) N N) := (HF.out.eb.far (p := ⟨go, n, none⟩) (Bk.ne HF.out.eb HF.out.og (by decide)) (.float .f32 x)).cell 0
        have q4 : (w.setCell ⟨gs, n, none⟩ (.bool true)).cell? ⟨ho, 0, none⟩ = some (.slice (some ⟨go, 0, none⟩) N N) := (HF.out.ob.far (p := ⟨gs, n, none⟩) (Bk.ne HF.out.ob HF.out.eg (by decide)) (.bool true)).cell 0
        go_upto_region 5 with fail
        go_region
        clear q1 q2 q3 q4 c4 s0 s1 d0 d1 e0 e1 o0 o1 c6 f1 f2
        go_wp2_with (go_at_call 139; refine ((hP _ (by repeat (first | exact Ext.refl _ | assumption | refine Ext.setCell ?_ (by first | (simp; done) | (simp; omega)) _ | refine Ext.drewN ?_ _ | refine Ext.alloc ?_ _ | refine Ext.drew ?_ | refine Ext.trans ?_ (by assumption)))).out).mono ?_; rintro e w3 ⟨rfl, v', ys, hp, hps, hob, hfr⟩)
        refine bodyPost_end (results_none Try.results138 _ _ _) rfl ?_
        have hF5 := HPut.out.step (Ext.drew (Ext.refl _))
        have hS6 := Bk.drew HS5.out
        refine ⟨rfl, fun g cs hb => hfr.bk (Bk.drew (HR5.out g cs hb)) (Bk.ne hF5.pb (Bk.drew (HR5.out g cs hb)) (by decide)).symm (own_ne hF5.own (Bk.drew (HR5.out g cs hb)) (by decide)), ⟨v', ys, hfr.bk hS6 (Bk.ne hF5.pb hS6 (by decide)).symm (fun e => Hne.out e.symm), fun e => ?_, .inl ⟨hgb.out, hp, hF5.heap hfr hps⟩⟩⟩
        rcases hob hs e with h1 | h1
        · exact Hne.out h1
        · have := hS6.lt
          omega
      · rw [hsn] at e1
        cases hlt : lt x (out n)
        · have hlt' : (FloatKind.f32.format.order x (out n) == some .lt) = false := hlt
          have hgb : Hid (goesB done seen out n x = false) := by show _ = _; simp [goesB, hdn, hsn, hlt]
          go_wp2
          refine bodyPost_end (results_none Try.results138 _ _ _) rfl ?_
          exact ⟨rfl, fun g cs hb => hb, ⟨v, xs, hS2.out, Hne.out, .inr ⟨hgb.out, rfl, rfl, HF.out⟩⟩⟩
        · have hlt' : (FloatKind.f32.format.order x (out n) == some .lt) = true := hlt
          have hgb : Hid (goesB done seen out n x = true) := by show _ = _; simp [goesB, hdn, hsn, hlt]
          have q1 : (w.setCell ⟨go, n, none⟩ (.float .f32 x)).cell? ⟨gs, n, none⟩ = some (.bool (seen n)) := by rw [(HF.out.eg.far (p := ⟨go, n, none⟩) (Ne.symm Hgo.out) (.float .f32 x)).cell]; exact bools_get _ hn
          have q2 : (w.setCell ⟨gs, n, none⟩ (.bool true)).cell? ⟨go, n, none⟩ = some (.float .f32 (out n)) := by rw [(HF.out.og.far (p := ⟨gs, n, none⟩) Hgo.out (.bool true)).cell]; exact flo_get _ hn
          have q3 : (w.setCell ⟨go, n, none⟩ (.float .f32 x)).cell? ⟨hse, 0, none⟩ = some (.slice (some ⟨gs, 0, none⟩) N N) := (HF.out.eb.far (p := ⟨go, n, none⟩) (Bk.ne HF.out.eb HF.out.og (by decide)) (.float .f32 x)).cell 0
          have q4 : (w.setCell ⟨gs, n, none⟩ (.bool true)).cell? ⟨ho, 0, none⟩ = some (.slice (some ⟨go, 0, none⟩) N N) := (HF.out.ob.far (p := ⟨gs, n, none⟩) (Bk.ne HF.out.ob HF.out.eg (by decide)) (.bool true)).cell 0
          go_upto_region 5 with fail
          go_region
          clear q1 q2 q3 q4 c4 s0 s1 d0 d1 e0 e1 o0 o1 c6 f1 f2
          go_wp2_with (go_at_call 139; refine ((hP _ (by repeat (first | exact Ext.refl _ | assumption | refine Ext.setCell ?_ (by first | (simp; done) | (simp; omega)) _ | refine Ext.drewN ?_ _ | refine Ext.alloc ?_ _ | refine Ext.drew ?_ | refine Ext.trans ?_ (by assumption)))).out).mono ?_; rintro e w3 ⟨rfl, v', ys, hp, hps, hob, hfr⟩)
          refine bodyPost_end (results_none Try.results138 _ _ _) rfl ?_
          have hF5 := HPut.out.step (Ext.drew (Ext.refl _))
          have hS6 := Bk.drew HS5.out
          refine ⟨rfl, fun g cs hb => hfr.bk (Bk.drew (HR5.out g cs hb)) (Bk.ne hF5.pb (Bk.drew (HR5.out g cs hb)) (by decide)).symm (own_ne hF5.own (Bk.drew (HR5.out g cs hb)) (by decide)), ⟨v', ys, hfr.bk hS6 (Bk.ne hF5.pb hS6 (by decide)).symm (fun e => Hne.out e.symm), fun e => ?_, .inl ⟨hgb.out, hp, hF5.heap hfr hps⟩⟩⟩
          rcases hob hs e with h1 | h1
          · exact Hne.out h1
          · have := hS6.lt
            omega
    · rw [hdn] at d1
      have hgb : Hid (goesB done seen out n x = false) := by show _ = _; simp [goesB, hdn]
      go_wp2
      refine bodyPost_end (results_none Try.results138 _ _ _) rfl ?_
      exact ⟨rfl, fun g cs hb => hb, ⟨v, xs, hS2.out, Hne.out, .inr ⟨hgb.out, rfl, rfl, HF.out⟩⟩⟩
end Go.Proofs.Ytinohfgokpbcdaa
