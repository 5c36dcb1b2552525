/- The heap of spills: Push and Pop of its own. -/
import Derived.Test.YtpgdinpckolfpaaQueA
import Derived.Deep.AppendLies
import Derived.Deep.RegionLaw
import Derived.OwnWalk
namespace Go.Proofs.Ytpgdinpckolfpaa
open Go.RowKit
attribute [local go_sem ↓] Go.wp_at_zero Go.wp_at_succ
attribute [local go_sem] run_store_float

/-- but for the block h and one more nothing that was there has turned -/
structure Fr (w w' : World) (h : Nat) (o : Option Nat) : Prop where
  os : w'.os = w.os
  tape : w'.tape = w.tape
  output : w'.output = w.output
  size : w.heap.size ≤ w'.heap.size
  block : ∀ k, k < w.heap.size → k ≠ h → some k ≠ o → w'.heap[k]? = w.heap[k]?
theorem Fr.refl (w : World) (h : Nat) (o : Option Nat) : Fr w w h o := ⟨rfl, rfl, rfl, Nat.le_refl _, fun _ _ _ _ => rfl⟩
theorem Fr.grown {a w w' : World} {h : Nat} {o : Option Nat} (f : Fr a w h o) (g : w.grownBy w' o) : Fr a w' h o :=
  ⟨g.os.trans f.os, g.tape.trans f.tape, g.output.trans f.output, Nat.le_trans f.size g.size, fun k hk h1 h2 => (g.block k (Nat.lt_of_lt_of_le hk f.size) h2).trans (f.block k hk h1 h2)⟩
theorem Fr.ext {a w w' : World} {h : Nat} {o : Option Nat} (f : Fr a w h o) (g : Ext w w') : Fr a w' h o := f.grown (grown_ext g o)
theorem Fr.trans {a b c : World} {h : Nat} {o : Option Nat} (f : Fr a b h o) (g : Fr b c h o) : Fr a c h o :=
  ⟨g.os.trans f.os, g.tape.trans f.tape, g.output.trans f.output, Nat.le_trans f.size g.size, fun k hk h1 h2 => (g.block k (Nat.lt_of_lt_of_le hk f.size) h1 h2).trans (f.block k hk h1 h2)⟩
/-- a later block of the call's own in the place of the elder one -/
theorem Fr.next {a b c : World} {h : Nat} {o o' : Option Nat} (f : Fr a b h o) (g : Fr b c h o') (ho : ∀ k, o' = some k → o = some k ∨ a.heap.size ≤ k) : Fr a c h o :=
  ⟨g.os.trans f.os, g.tape.trans f.tape, g.output.trans f.output, Nat.le_trans f.size g.size, fun k hk h1 h2 => (g.block k (Nat.lt_of_lt_of_le hk f.size) h1 (fun e => by
    rcases ho k e.symm with hh | hh
    · exact h2 hh.symm
    · omega)).trans (f.block k hk h1 h2)⟩
theorem Fr.set {a w : World} {h : Nat} {o : Option Nat} (f : Fr a w h o) (i : Nat) (u : Value) : Fr a (w.setCell ⟨h, i, none⟩ u) h o :=
  ⟨f.os, f.tape, f.output, by simpa [World.setCell] using f.size, fun k hk h1 h2 => (Below.heap_setCell w ⟨h, i, none⟩ u k (fun e => h1 e)).trans (f.block k hk h1 h2)⟩
theorem Fr.bk {w w' : World} {h : Nat} {o : Option Nat} (f : Fr w w' h o) {g : Nat} {t : TypeId} {cs : Array Value} (hb : Bk w g t cs) (h1 : g ≠ h) (h2 : some g ≠ o) : Bk w' g t cs := (f.block g hb.lt h1 h2).trans hb
theorem Fr.to_ext {a w w' : World} {h : Nat} {o : Option Nat} (hx : Ext a w) (f : Fr w w' h o) (h1 : a.heap.size ≤ h) (h2 : ∀ k, o = some k → a.heap.size ≤ k) : Ext a w' := by
  have k : Below a.heap.size a w := hx
  exact ⟨f.os.trans k.os, f.tape.trans k.tape, f.output.trans k.output, Nat.le_trans k.size f.size, fun i hi => (f.block i (Nat.lt_of_lt_of_le hi k.size) (by omega) (fun e => by have := h2 i e.symm; omega)).trans (k.block i hi)⟩

/-- a list of spills of the call's own -/
def OwnS (w : World) (base : Nat) (v : Value) (xs : List SpR) : Prop := w.ownsRow base 169 2 v xs.length (scells xs)
theorem OwnS.nil (w : World) (base : Nat) : OwnS w base (.slice none 0 0) [] := World.ownsRow_nil w base _ 2
theorem OwnS.ext {w w' : World} {base : Nat} {v : Value} {xs : List SpR} (h : OwnS w base v xs) (hx : Ext w w') : OwnS w' base v xs := World.ownsRow.kept h (grown_ext hx none) (by cases h : v.ownBlock <;> simp)
theorem OwnS.form {w : World} {base : Nat} {v : Value} {xs : List SpR} (h : OwnS w base v xs) (hn : 0 < xs.length) : ∃ g cap rest, v = .slice (some ⟨g, 0, none⟩) xs.length cap ∧ base ≤ g ∧ SB w g xs rest ∧ xs.length ≤ cap ∧ cap ≤ maxLen ∧ rest.length + xs.length * 2 = cap * 2 := by
  rcases h.2 with ⟨_, h2⟩ | ⟨g, cap, cur, hv, hbg, hh, h3, h4, h5, h6⟩
  · omega
  · refine ⟨g, cap, cur.toList.drop (xs.length * 2), hv, hbg, ?_, h3, h4, ?_⟩
    · unfold SB Bk
      rw [← h6, List.take_append_drop, Array.toArray_toList]
      exact hh
    · rw [List.length_drop, Array.length_toList, h5]
      omega
theorem OwnS.mk {w : World} {base g cap n : Nat} {xs : List SpR} {rest : List Value} (hn : n = xs.length) (hb : base ≤ g) (h : SB w g xs rest) (h3 : xs.length ≤ cap) (h4 : cap ≤ maxLen) (h5 : rest.length + xs.length * 2 = cap * 2) : OwnS w base (.slice (some ⟨g, 0, none⟩) n cap) xs := by
  subst hn
  refine ⟨scells_length xs, .inr ⟨g, cap, _, rfl, hb, h, h3, h4, ?_, ?_⟩⟩
  · simp [scells_length]
    omega
  · rw [List.take_append_of_le_length (by rw [scells_length]; omega), List.take_of_length_le (by rw [scells_length]; omega)]

theorem as_spill (v : Value) (w : World) : (Instr.typeAssert (.iface 169 v) 20 169 false).run Try.prog w = .ok v w := by kernel_rfl
attribute [local go_sem] as_spill
theorem infoSp : (Try.prog.info? 169).map (fun i => (i.zero, i.size, i.bytes)) = some (some (.agg #[.float .f32 0, .int .i64 0]), 2, 16) := by kernel_rfl

set_option maxRecDepth 100000 in
set_option maxHeartbeats 1600000 in
theorem Push_any (hb base : Nat) (v : Value) (xs : List SpR) (a : SpR) (w : World) (hB : Bk w hb 171 #[v]) (hO : OwnS w base v xs) (hbase : base ≤ w.heap.size) (hn : xs.length ≤ 4000000000) :
    Calls Try.prog 157 #[.pointer (some ⟨hb, 0, none⟩), .iface 169 (.agg #[.float .f32 a.v, .int .i64 a.k])] w fun e w' => e = .returned (.tuple #[]) ∧ ∃ g cap, (v.ownBlock = some g ∨ w.heap.size ≤ g) ∧ Bk w' hb 171 #[.slice (some ⟨g, 0, none⟩) (xs.length + 1) cap] ∧ OwnS w' base (.slice (some ⟨g, 0, none⟩) (xs.length + 1) cap) (xs ++ [a]) ∧ Fr w w' hb v.ownBlock := by
  obtain ⟨i0, hi0, hz0, hz1, hz2⟩ := info_parts infoSp
  have c0 := hB.cell 0
  have f0 := hB.frozen 0
  have c1 := (hB.alloc (.cells #[.float .f32 a.v, .int .i64 a.k] 169)).cell 0
  go_enter Try.func157, Try.ntmps157
  go_region_law ((refine step_append_lies _ (by rfl) (.tmp 7) (.tmp 10) 171 (by rfl) base 169 i0 (.agg #[.float .f32 0, .int .i64 0]) 2 16 Try.underlying171 hi0 hz0 hz1 hz2 (by rfl) (by decide) v xs.length (scells xs) (by rfl) (hO.ext (by repeat (first | exact Ext.refl _ | assumption | refine Ext.setCell ?_ (by first | (simp; done) | (simp; omega)) _ | refine Ext.drewN ?_ _ | refine Ext.alloc ?_ _ | refine Ext.drew ?_ | refine Ext.trans ?_ (by assumption)))) ⟨w.heap.size, 0, none⟩ 1 1 [.float .f32 a.v, .int .i64 a.k] (by rfl) (by rfl) (World.news_of_block (cs := #[.float .f32 a.v, .int .i64 a.k]) (t := 169) (fr := (0, 0)) (heap_alloc_new _ _)) (by simp [Value.oneCell']) (by decide) (by unfold maxLen; omega) (by omega) (by simp; omega) (w.heap.size + 1) (by simp) ?_; intro g cap w1 hown hgrow hat hlt; have hB1 := Bk.grown (hB.ext (by repeat (first | exact Ext.refl _ | assumption | refine Ext.setCell ?_ (by first | (simp; done) | (simp; omega)) _ | refine Ext.drewN ?_ _ | refine Ext.alloc ?_ _ | refine Ext.drew ?_ | refine Ext.trans ?_ (by assumption)))) hgrow (own_ne hO hB (by decide)); have d0 := hB1.cell 0; have d1 := hB1.frozen 0))
  all_goals
    (try go_wp2)
    refine bodyPost_end (results_none Try.results157 _ _ _) rfl ?_
    refine ⟨rfl, g, cap, ?_, hB1.set 0 _, ?_, ?_⟩
    · rcases hat with h | h
      · exact .inl h
      · exact .inr (by omega)
    · have hne : some hb ≠ (Value.slice (some ⟨g, 0, none⟩) (xs.length + 1) cap).ownBlock := own_ne hown hB1 (by decide)
      unfold OwnS
      rw [List.length_append, scells_append]
      exact ownsRow_setCell_other hown (fun e => hne e.symm) _
    · exact Fr.set (Fr.grown (Fr.ext (Fr.refl w _ _) (by repeat (first | exact Ext.refl _ | assumption | refine Ext.setCell ?_ (by first | (simp; done) | (simp; omega)) _ | refine Ext.drewN ?_ _ | refine Ext.alloc ?_ _ | refine Ext.drew ?_ | refine Ext.trans ?_ (by assumption)))) hgrow) _ _

set_option maxRecDepth 100000 in
set_option maxHeartbeats 1600000 in
theorem Pop_any (hb g n c : Nat) (xs : List SpR) (a : SpR) (rest : List Value) (w : World) (hB : Bk w hb 171 #[.slice (some ⟨g, 0, none⟩) (n + 1) c]) (hn : xs.length = n) (hS : SB w g (xs ++ [a]) rest) (hc : n + 1 ≤ c) (hn4 : n ≤ 4000000000) :
    Calls Try.prog 156 #[.pointer (some ⟨hb, 0, none⟩)] w fun e w' => e = .returned (.iface 169 (.agg #[.float .f32 a.v, .int .i64 a.k])) ∧ Bk w' hb 171 #[.slice (some ⟨g, 0, none⟩) n c] ∧ Fr w w' hb none := by
  subst hn
  have hl : xs.length < (xs ++ [a]).length := by simp
  obtain ⟨a0, a1⟩ := cell_r hS.rd hl
  obtain ⟨b0, b1⟩ := cell_r (SB.rd (Bk.alloc hS (.cells #[.float .f32 0, .int .i64 0] 169))) hl
  have e : (xs ++ [a])[xs.length] = a := by simp
  rw [e] at a0 a1 b0 b1
  obtain ⟨av, ak⟩ := a
  dsimp only at a0 a1 b0 b1 ⊢
  have c0 := hB.cell 0
  have c1 := (hB.alloc (.cells #[.float .f32 0, .int .i64 0] 169)).cell 0
  have hlt := hB.lt
  clear e hl hS
  generalize xs.length = n at *
  go_enter Try.func156, Try.ntmps156
  go_upto_region 1 with fail
  go_region
  have hx2 : Ext w (w.alloc (.cells #[.float .f32 av, .int .i64 ak] 169)).drew := ((Ext.refl w).alloc _).drew
  have hB2 := hB.ext hx2
  have hX2 : Bk (w.alloc (.cells #[.float .f32 av, .int .i64 ak] 169)).drew w.heap.size 169 #[.float .f32 av, .int .i64 ak] := (Bk.new' rfl).drew
  have hfr := Fr.ext (Fr.refl w hb none) hx2
  generalize (w.alloc (.cells #[.float .f32 av, .int .i64 ak] 169)).drew = w2 at *
  clear a0 a1 b0 b1 c0 c1
  have c0 := hB2.cell 0
  have f0 := hB2.frozen 0
  have n1 : (n : Int) ≤ c := by omega
  go_upto_region 2 with fail
  go_region
  have hB3 : Bk (w2.setCell ⟨hb, 0, none⟩ (.slice (some ⟨g, 0, none⟩) n c)).drew hb 171 #[.slice (some ⟨g, 0, none⟩) n c] := (hB2.set 0 _).drew
  have hX3 : Bk (w2.setCell ⟨hb, 0, none⟩ (.slice (some ⟨g, 0, none⟩) n c)).drew w.heap.size 169 #[.float .f32 av, .int .i64 ak] := (hX2.far (by simp; omega) _).drew
  have hfr3 : Fr w (w2.setCell ⟨hb, 0, none⟩ (.slice (some ⟨g, 0, none⟩) n c)).drew hb none := (hfr.set 0 _).ext ((Ext.refl _).drew)
  generalize (w2.setCell ⟨hb, 0, none⟩ (.slice (some ⟨g, 0, none⟩) n c)).drew = w3 at *
  clear c0 f0
  have x0 := hX3.cell 0
  have x1 := hX3.cell 1
  go_wp2
  go_ret
  exact ⟨rfl, hB3, hfr3⟩
end Go.Proofs.Ytpgdinpckolfpaa
