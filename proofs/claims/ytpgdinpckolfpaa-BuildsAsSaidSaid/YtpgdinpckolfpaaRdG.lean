/- Contract: ground.hops$1: a tight step from the cell that is looked at. -/
import Derived.Test.YtpgdinpckolfpaaRdF
import Derived.Test.YtpgdinpckolfpaaRdH
import Derived.Deep.AppendLies
import Derived.OwnWalk
namespace Go.Proofs.Ytpgdinpckolfpaa
open Go.RowKit
attribute [local go_sem ↓] Go.wp_at_zero Go.wp_at_succ
attribute [local go_sem] run_store_float

def intB (m : Nat) (f : Nat → Int) : Array Value := ((List.range m).map fun k => Value.int .i64 (f k)).toArray
theorem intB_get {m k : Nat} (f : Nat → Int) (hk : k < m) : (intB m f)[k]? = some (.int .i64 (f k)) := by
  unfold intB
  rw [List.getElem?_toArray, List.getElem?_map, List.getElem?_range hk]
  rfl
theorem intB_set {m k : Nat} (f : Nat → Int) (x : Int) : (intB m f).setIfInBounds k (.int .i64 x) = intB m (updF f k x) := by
  apply Array.ext
  · simp [intB]
  · intro j h1 h2
    have hj : j < m := by simpa [intB] using h2
    have e1 : (intB m (updF f k x))[j] = .int .i64 (updF f k x j) := by simp [intB]
    have e2 : (intB m f)[j]'(by simpa [intB] using hj) = .int .i64 (f j) := by simp [intB]
    rw [Array.getElem_setIfInBounds (by simpa [intB] using hj), e1, e2]
    unfold updF
    by_cases h : k = j
    · rw [if_pos h, if_pos h.symm]
    · rw [if_neg h, if_neg (fun e => h e.symm)]
theorem infoInt : (Try.prog.info? 3).map (fun i => (i.zero, i.size, i.bytes)) = some (some (.int .i64 0), 1, 8) := by kernel_rfl
theorem mk_int (n : Nat) (hn : n ≤ 262144) (w : World) : (Instr.makeSlice 60 (.int .i64 (n : Int)) (.int .i64 (n : Int))).run Try.prog w =
    .ok (.slice (some ⟨w.heap.size, 0, none⟩) n n) (w.alloc (.cells (intB n fun _ => 0) 3)) := by
  obtain ⟨i0, hi0, hz0, hz1, hz2⟩ := info_parts infoInt
  have h := run_make (P := Try.prog) w 60 3 i0 (.int .i64 0) Try.underlying60 hi0 hz0 .i64 .i64 n n (by omega) (by omega) (by rw [hz2]; omega) (by omega)
  rw [hz1] at h
  have e : madeCells (Value.int .i64 0).cells ((n : Int).toNat * 1) = intB n fun _ => 0 := by
    rw [Int.toNat_natCast]
    unfold madeCells intB
    apply Array.ext
    · simp
    · intro i h1 h2
      simp [Value.cells, Nat.mod_one]
  rw [e] at h
  simpa using h
def ints (q : List Nat) : List Value := q.map fun (k : Nat) => Value.int .i64 (k : Int)
theorem ints_length (q : List Nat) : (ints q).length = q.length := by simp [ints]
theorem ints_get {q : List Nat} {k : Nat} (hk : k < q.length) : (ints q)[k]? = some (.int .i64 (q[k] : Nat)) := by simp [ints, hk]
theorem ints_snoc (q : List Nat) (i : Nat) : ints (q ++ [i]) = ints q ++ [.int .i64 (i : Int)] := by simp [ints]
/-- a slice of the call's own, and what it holds -/
def OwnI (w : World) (base : Nat) (qv : Value) (q : List Nat) : Prop := w.ownsRow base 3 1 qv q.length (ints q)
theorem OwnI.grown {w w' : World} {base : Nat} {qv : Value} {q : List Nat} (h : OwnI w base qv q) {r : Option Nat} (hg : w.grownBy w' r) (hne : qv.ownBlock = none ∨ qv.ownBlock ≠ r) : OwnI w' base qv q := World.ownsRow.kept h hg hne
theorem OwnI.ext {w w' : World} {base : Nat} {qv : Value} {q : List Nat} (h : OwnI w base qv q) (hx : Ext w w') : OwnI w' base qv q := h.grown (grown_ext hx none) (by cases h : qv.ownBlock <;> simp)
theorem OwnI.set {w : World} {base : Nat} {qv : Value} {q : List Nat} (h : OwnI w base qv q) {a : Addr} (ha : some a.block ≠ qv.ownBlock) (u : Value) : OwnI (w.setCell a u) base qv q := ownsRow_setCell_other h (fun e => ha e.symm) u
theorem OwnI.form {w : World} {base : Nat} {qv : Value} {q : List Nat} (h : OwnI w base qv q) : ∃ A cap, qv = .slice A q.length cap := by
  rcases h.2 with ⟨h1, h2⟩ | ⟨g, cap, cur, hv, _, _, h3, _⟩
  · exact ⟨none, 0, by rw [h1]; simp [h2]⟩
  · exact ⟨_, cap, hv⟩
theorem OwnI.rd {w : World} {base : Nat} {A : Option Addr} {n c : Nat} {q : List Nat} (h : OwnI w base (.slice A n c) q) (hn : n = q.length) : Rd w A (ints q) := by
  subst hn
  exact Rd.of_own h

/-- what hops holds in memory -/
structure HM (W0 w : World) (hb hp hk hl gi go gs : Nat) (N src k : Nat) (P : Nat → Nat) (H : Nat → Int) (q : List Nat) (qv : Value) : Prop where
  eb : Bk w hb 60 #[.slice (some ⟨gi, 0, none⟩) N N]
  ig : Bk w gi 3 (intB N H)
  pb : Bk w hp 124 #[.int .i64 src, .slice (some ⟨go, 0, none⟩) N N, .slice (some ⟨gs, 0, none⟩) N N]
  pg : Bk w go 27 (flo N P)
  kb : Bk w hk 3 #[.int .i64 k]
  lb : Bk w hl 60 #[qv]
  own : OwnI w W0.heap.size qv q
  ext : Ext W0 w
  n1 : hk ≠ gi
  n2 : qv.ownBlock ≠ some gi
  n3 : qv.ownBlock ≠ some hk
  n4 : hb ≠ hl
  b1 : W0.heap.size ≤ gi
  b2 : W0.heap.size ≤ hl
section
variable {W0 w : World} {hb hp hk hl gi go gs : Nat} {N src k : Nat} {P : Nat → Nat} {H : Nat → Int} {q : List Nat} {qv : Value}
theorem HM.step (h : HM W0 w hb hp hk hl gi go gs N src k P H q qv) {w' : World} (hx : Ext w w') : HM W0 w' hb hp hk hl gi go gs N src k P H q qv :=
  ⟨h.eb.ext hx, h.ig.ext hx, h.pb.ext hx, h.pg.ext hx, h.kb.ext hx, h.lb.ext hx, h.own.ext hx, h.ext.trans hx, h.n1, h.n2, h.n3, h.n4, h.b1, h.b2⟩
theorem HM.put (h : HM W0 w hb hp hk hl gi go gs N src k P H q qv) (i : Nat) (x : Int) : HM W0 (w.setCell ⟨gi, i, none⟩ (.int .i64 x)) hb hp hk hl gi go gs N src k P (updF H i x) q qv := by
  have e1 := Bk.set h.ig i (.int .i64 x)
  rw [intB_set] at e1
  exact ⟨h.eb.far (Bk.ne h.eb h.ig (by decide)) _, e1, h.pb.far (Bk.ne h.pb h.ig (by decide)) _, h.pg.far (Bk.ne h.pg h.ig (by decide)) _, h.kb.far h.n1 _, h.lb.far (Bk.ne h.lb h.ig (by decide)) _, h.own.set (fun e => h.n2 e.symm) _, h.ext.setCell h.b1 _, h.n1, h.n2, h.n3, h.n4, h.b1, h.b2⟩
theorem HM.push (h : HM W0 w hb hp hk hl gi go gs N src k P H q qv) {w' : World} {o : Obj} {g cap i : Nat} (hg : (w.alloc o).grownBy w' qv.ownBlock) (hown : w'.ownsRow W0.heap.size 3 1 (.slice (some ⟨g, 0, none⟩) (q.length + 1) cap) (q.length + 1) (ints q ++ [.int .i64 (i : Int)]))
    (hat : qv.ownBlock = some g ∨ g = w.heap.size + 1) : HM W0 (w'.setCell ⟨hl, 0, none⟩ (.slice (some ⟨g, 0, none⟩) (q.length + 1) cap)) hb hp hk hl gi go gs N src k P H (q ++ [i]) (.slice (some ⟨g, 0, none⟩) (q.length + 1) cap) := by
  have h' := h.step ((Ext.refl w).alloc o)
  have hne : ∀ {g : Nat} {t : TypeId} {cs : Array Value}, Bk (w.alloc o) g t cs → qv.ownBlock ≠ some g → Bk w' g t cs := fun hB ht => hB.grown hg (fun e => ht e.symm)
  have ht : ∀ {g : Nat} {t : TypeId} {cs : Array Value}, Bk (w.alloc o) g t cs → 3 ≠ t → qv.ownBlock ≠ some g := fun hB ht e => own_ne h'.own hB ht e.symm
  have k1 := hne h'.eb (ht h'.eb (by decide))
  have k2 := hne h'.ig h'.n2
  have k3 := hne h'.pb (ht h'.pb (by decide))
  have k4 := hne h'.pg (ht h'.pg (by decide))
  have k5 := hne h'.kb h'.n3
  have k6 := hne h'.lb (ht h'.lb (by decide))
  have hx : Ext W0 w' := h'.ext.grown hg (fun k he => (h'.own.lt k he).1)
  have hO : OwnI w' W0.heap.size (.slice (some ⟨g, 0, none⟩) (q.length + 1) cap) (q ++ [i]) := by
    unfold OwnI
    rw [ints_snoc, List.length_append]
    exact hown
  have hgi : g ≠ gi := fun e => by
    subst e
    rcases hat with h1 | h1
    · exact h.n2 h1
    · have := h.ig.lt; omega
  have hgk : g ≠ hk := fun e => by
    subst e
    rcases hat with h1 | h1
    · exact h.n3 h1
    · have := h.kb.lt; omega
  exact ⟨k1.far h.n4 _, k2.far (Bk.ne k2 k6 (by decide)) _, k3.far (Bk.ne k3 k6 (by decide)) _, k4.far (Bk.ne k4 k6 (by decide)) _, k5.far (Bk.ne k5 k6 (by decide)) _, k6.set 0 _, hO.set (own_ne hO k6 (by decide)) _, hx.setCell h.b2 _, h.n1,
    fun e => hgi (by injection e), fun e => hgk (by injection e), h.n4, h.b1, h.b2⟩
end
def feqB (x y : Nat) : Bool := FloatKind.f32.format.order x y == some .eq
/-- whether a step is tight -/
def tgt (P : Nat → Nat) (n m b : Nat) : Bool := feqB (fadd (P n) b) (P m)
/-- what a step leaves -/
def Hop1 (W0 : World) (hb hp hk hl gi go gs : Nat) (N src k : Nat) (P : Nat → Nat) (H : Nat → Int) (q : List Nat) (qv : Value) (n c : Nat) (w' : World) : Prop :=
  (H n = -1 ∧ tgt P k n c = true ∧ ∃ qv', HM W0 w' hb hp hk hl gi go gs N src k P (updF H n (H k + 1)) (q ++ [n]) qv') ∨
  ((H n ≠ -1 ∨ tgt P k n c = false) ∧ HM W0 w' hb hp hk hl gi go gs N src k P H q qv)

set_option maxRecDepth 100000 in
set_option maxHeartbeats 3200000 in
theorem hops1_any (W0 w : World) (hb hp hk hl gi go gs : Nat) (N src k : Nat) (P : Nat → Nat) (H : Nat → Int) (q : List Nat) (qv : Value) (n c : Nat)
    (hF : HM W0 w hb hp hk hl gi go gs N src k P H q qv) (hn : n < N) (hkN : k < N) (hlen : q.length ≤ 65536) (hHk : -1 ≤ H k ∧ H k < 65536)
    (hadd : floatBits .add .f32 (P k) c = some (fadd (P k) c)) :
    Calls Try.prog 128 #[.int .i64 n, .float .f32 c, .pointer (some ⟨hb, 0, none⟩), .pointer (some ⟨hp, 0, none⟩), .pointer (some ⟨hk, 0, none⟩), .pointer (some ⟨hl, 0, none⟩)] w fun e w' => e = .returned (.tuple #[]) ∧ (∀ g t cs, Bk w g t cs → 3 ≠ t → 60 ≠ t → Bk w' g t cs) ∧
      Hop1 W0 hb hp hk hl gi go gs N src k P H q qv n c w' := by
  have e0 := hF.eb.cell 0
  have e1 : w.cell? ⟨gi, n, none⟩ = some (.int .i64 (H n)) := by rw [hF.ig.cell]; exact intB_get _ hn
  have e2 : w.cell? ⟨gi, k, none⟩ = some (.int .i64 (H k)) := by rw [hF.ig.cell]; exact intB_get _ hkN
  have p1 := hF.pb.cell 1
  have k0 := hF.kb.cell 0
  have g1 : w.cell? ⟨go, k, none⟩ = some (.float .f32 (P k)) := by rw [hF.pg.cell]; exact flo_get _ hkN
  have g2 : w.cell? ⟨go, n, none⟩ = some (.float .f32 (P n)) := by rw [hF.pg.cell]; exact flo_get _ hn
  have i0 : (0 : Int) ≤ n := by omega
  have i1 : (n : Int) < N := by omega
  have j0 : (0 : Int) ≤ k := by omega
  have j1 : (k : Int) < N := by omega
  have f1 := hF.ig.frozen n
  have HF := hidA hF
  have hrun := fun (w : World) => run_float_arith (P := Try.prog) w .add 27 .f32 _ _ _ hadd
  obtain ⟨i9, hi0, hz0, hz1, hz2⟩ := info_parts infoInt
  clear hF hadd
  by_cases hm : H n = -1
  · rw [hm] at e1
    cases ht : tgt P k n c
    · have hq : (FloatKind.f32.format.order (fadd (P k) c) (P n) == some .eq) = false := ht
      have Ht := hidA ht
      generalize fadd (P k) c = x at *
      clear ht
      go_enter Try.func128, Try.ntmps128
      go_upto_region 0 with fail
      go_quiet (fail)
      go_wp2
      refine bodyPost_end (results_none Try.results128 _ _ _) rfl ?_
      exact ⟨rfl, fun g t cs hb _ _ => hb.ext (by repeat (first | exact Ext.refl _ | assumption | refine Ext.setCell ?_ (by first | (simp; done) | (simp; omega)) _ | refine Ext.drewN ?_ _ | refine Ext.alloc ?_ _ | refine Ext.drew ?_ | refine Ext.trans ?_ (by assumption))), .inr ⟨.inr Ht.out, HF.out.step (by repeat (first | exact Ext.refl _ | assumption | refine Ext.setCell ?_ (by first | (simp; done) | (simp; omega)) _ | refine Ext.drewN ?_ _ | refine Ext.alloc ?_ _ | refine Ext.drew ?_ | refine Ext.trans ?_ (by assumption)))⟩⟩
    · have hq : (FloatKind.f32.format.order (fadd (P k) c) (P n) == some .eq) = true := ht
      have Ht := hidA ht
      generalize fadd (P k) c = x at *
      clear ht
      go_enter Try.func128, Try.ntmps128
      go_upto_region 0 with fail
      go_quiet (fail)
      have HF1 := HF.out.step (show Ext w (w.drewN nq) from (by repeat (first | exact Ext.refl _ | assumption | refine Ext.setCell ?_ (by first | (simp; done) | (simp; omega)) _ | refine Ext.drewN ?_ _ | refine Ext.alloc ?_ _ | refine Ext.drew ?_ | refine Ext.trans ?_ (by assumption))))
      have hkp : ∀ g t cs, Bk w g t cs → Bk (w.drewN nq) g t cs := fun g t cs hb => hb.ext (by repeat (first | exact Ext.refl _ | assumption | refine Ext.setCell ?_ (by first | (simp; done) | (simp; omega)) _ | refine Ext.drewN ?_ _ | refine Ext.alloc ?_ _ | refine Ext.drew ?_ | refine Ext.trans ?_ (by assumption)))
      have Hkp := hidA hkp
      clear e0 e1 e2 p1 k0 g1 g2 f1 hrun hq HF hkp
      generalize w.drewN nq = w1 at *
      have e0 := HF1.eb.cell 0
      have e1 : w1.cell? ⟨gi, n, none⟩ = some (.int .i64 (H n)) := by rw [HF1.ig.cell]; exact intB_get _ hn
      have e2 : w1.cell? ⟨gi, k, none⟩ = some (.int .i64 (H k)) := by rw [HF1.ig.cell]; exact intB_get _ hkN
      have k0 := HF1.kb.cell 0
      have f1 := HF1.ig.frozen n
      have hwr : wrap64 (H k + 1) = H k + 1 := IntWalk.wrap64_in _ ⟨by omega, by omega⟩
      have Hwr := hidA hwr
      have HF1 := hidA HF1
      have Hm := hidA hm
      clear hm hwr hHk
      go_upto_region 1 with fail
      go_region
      have hF2 := (HF1.out.put n (wrap64 (H k + 1))).step (Ext.drew (Ext.refl _))
      have hig := HF1.out.ig
      have hkp2 : ∀ g t cs, Bk w g t cs → 3 ≠ t → 60 ≠ t → Bk (w1.setCell ⟨gi, n, none⟩ (.int .i64 (wrap64 (H k + 1)))).drew g t cs := fun g t cs hb n1 n2 => (((Hkp.out g t cs hb).far (Bk.ne (Hkp.out g t cs hb) hig n1.symm) _).ext (Ext.drew (Ext.refl _)))
      have Hkp2 := hidA hkp2
      clear e0 e1 e2 k0 f1 HF1 Hkp hig hkp2
      generalize (w1.setCell ⟨gi, n, none⟩ (.int .i64 (wrap64 (H k + 1)))).drew = w2 at *
      rw [Hwr.out] at hF2
      have c0 := hF2.lb.cell 0
      have hsz := hF2.ext.size
      have HF2 := hidA hF2
      have hnews : Hid (∀ j u, ([Value.int .i64 (n : Int)] : List Value)[j]? = some u → (w2.alloc (.cells #[.int .i64 (n : Int)] 3)).cell? ((⟨w2.heap.size, 0, none⟩ : Addr).add j) = some u) := World.news_of_block (cs := #[.int .i64 (n : Int)]) (t := 3) (fr := (0, 0)) (heap_alloc_new w2 _)
      have hone : Hid (∀ u ∈ ([Value.int .i64 (n : Int)] : List Value), u.oneCell' = true) := by intro u hu; simp at hu; subst hu; rfl
      have hown2 := hidA (hF2.own.ext ((Ext.refl w2).alloc (.cells #[.int .i64 (n : Int)] 3)))
      have hne2 := hidA (own_ne hF2.own hF2.lb (by decide))
      have hpm := hidA (hF2.lb.alloc (.cells #[.int .i64 (n : Int)] 3))
      clear hF2
      go_wp2_with (at_builtin; (refine wpList_append_lies _ (by rfl) _ _ 60 (by rfl) W0.heap.size 3 i9 (.int .i64 0) 1 8 Try.underlying60 hi0 hz0 hz1 hz2 rfl (by decide) qv q.length (ints q) (by rfl) hown2.out ⟨w2.heap.size, 0, none⟩ 1 1 [.int .i64 (n : Int)] (by rfl) (by rfl) hnews.out hone.out (by omega) (by unfold maxLen; omega) (by omega) (by rw [World.size_alloc]; omega) (w2.heap.size + 1) (by simp) ?_; intro g cap w3 hown3 hgrow3 hat hlt; have hB3 := Bk.grown hpm.out hgrow3 hne2.out; have d0 := hB3.cell 0; have d1 := hB3.frozen 0; clear hB3))
      have hF4 := HF2.out.push hgrow3 hown3 hat
      refine bodyPost_end (results_none Try.results128 _ _ _) rfl ?_
      refine ⟨rfl, fun g' t cs hb n1 n2 => ?_, .inl ⟨Hm.out, Ht.out, _, hF4⟩⟩
      have h1 := Hkp2.out g' t cs hb n1 n2
      have h2 := (h1.alloc (.cells #[.int .i64 (n : Int)] 3)).grown hgrow3 (own_ne HF2.out.own h1 n1)
      exact h2.far (Bk.ne h2 (Bk.grown hpm.out hgrow3 hne2.out) n2.symm) _
  · go_enter Try.func128, Try.ntmps128
    go_upto_region 0 with fail
    go_quiet (fail)
    go_wp2
    refine bodyPost_end (results_none Try.results128 _ _ _) rfl ?_
    exact ⟨rfl, fun g t cs hb _ _ => hb.ext (by repeat (first | exact Ext.refl _ | assumption | refine Ext.setCell ?_ (by first | (simp; done) | (simp; omega)) _ | refine Ext.drewN ?_ _ | refine Ext.alloc ?_ _ | refine Ext.drew ?_ | refine Ext.trans ?_ (by assumption))), .inr ⟨.inl hm, HF.out.step (by repeat (first | exact Ext.refl _ | assumption | refine Ext.setCell ?_ (by first | (simp; done) | (simp; omega)) _ | refine Ext.drewN ?_ _ | refine Ext.alloc ?_ _ | refine Ext.drew ?_ | refine Ext.trans ?_ (by assumption)))⟩⟩
end Go.Proofs.Ytpgdinpckolfpaa
