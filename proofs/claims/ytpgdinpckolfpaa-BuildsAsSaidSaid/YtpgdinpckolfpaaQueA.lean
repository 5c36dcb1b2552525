/- The heap of spills: its methods, found through the pointer to it; Less, Len, Swap. -/
import Derived.Test.YtpgdinpckolfpaaHeapP
import Derived.Test.YtpgdinpckolfpaaBaseC
import Derived.Deep.DeepCutAuto
import Derived.Outline
import Derived.RegionTactic
import Derived.BigRegion
import Derived.BigQuiet
import Derived.Deep.QuietTactic
namespace Go.Proofs.Ytpgdinpckolfpaa
open Go.RowKit
attribute [local go_sem ↓] Go.wp_at_zero Go.wp_at_succ
attribute [local go_sem] run_store_float

theorem chk (w : World) (a : Addr) (s t : String) : (Builtin.ssaWrapNilChk_ #[173] 173 #[.pointer (some a), strVal s, strVal t]).run Try.prog w = .ok (.pointer (some a)) w := by kernel_rfl
theorem nil_Less (n : Nat) (w : World) (a : Addr) : (nilAhead (n + 1) 173 (.pointer (some a)) "Less").run Try.prog w = .ok (some false) w := by kernel_rfl
theorem row_Less : ∃ m, Array.find? (fun x => x.name == "Less") Try.t173.methods = some m ∧ m.path = #[] ∧ m.func = some (154, false) := by
  have h : (Array.find? (fun x => x.name == "Less") Try.t173.methods).map (fun m => (m.path, m.func)) = some (#[], some (154, false)) := by kernel_rfl
  cases hm : Array.find? (fun x => x.name == "Less") Try.t173.methods with
  | none => rw [hm] at h; cases h
  | some m =>
    rw [hm] at h
    simp at h
    exact ⟨m, rfl, h.1, h.2⟩
theorem m_Less (w : World) (hb : Nat) (v : Value) (h : w.cell? ⟨hb, 0, none⟩ = some v) (n : Nat) : (method (n + 1) 173 (.pointer (some ⟨hb, 0, none⟩)) "Less").run Try.prog w = .ok (154, v) w := by
  obtain ⟨m, h1, h2, h3⟩ := row_Less
  unfold method
  go_simp
  simp only [follow]
  go_simp
  simp only [receiverAt, Place.get]
  go_simp
  rw [chk]
  go_simp
theorem nil_Len (n : Nat) (w : World) (a : Addr) : (nilAhead (n + 1) 173 (.pointer (some a)) "Len").run Try.prog w = .ok (some false) w := by kernel_rfl
theorem row_Len : ∃ m, Array.find? (fun x => x.name == "Len") Try.t173.methods = some m ∧ m.path = #[] ∧ m.func = some (153, false) := by
  have h : (Array.find? (fun x => x.name == "Len") Try.t173.methods).map (fun m => (m.path, m.func)) = some (#[], some (153, false)) := by kernel_rfl
  cases hm : Array.find? (fun x => x.name == "Len") Try.t173.methods with
  | none => rw [hm] at h; cases h
  | some m =>
    rw [hm] at h
    simp at h
    exact ⟨m, rfl, h.1, h.2⟩
theorem m_Len (w : World) (hb : Nat) (v : Value) (h : w.cell? ⟨hb, 0, none⟩ = some v) (n : Nat) : (method (n + 1) 173 (.pointer (some ⟨hb, 0, none⟩)) "Len").run Try.prog w = .ok (153, v) w := by
  obtain ⟨m, h1, h2, h3⟩ := row_Len
  unfold method
  go_simp
  simp only [follow]
  go_simp
  simp only [receiverAt, Place.get]
  go_simp
  rw [chk]
  go_simp
theorem nil_Swap (n : Nat) (w : World) (a : Addr) : (nilAhead (n + 1) 173 (.pointer (some a)) "Swap").run Try.prog w = .ok (some false) w := by kernel_rfl
theorem row_Swap : ∃ m, Array.find? (fun x => x.name == "Swap") Try.t173.methods = some m ∧ m.path = #[] ∧ m.func = some (155, false) := by
  have h : (Array.find? (fun x => x.name == "Swap") Try.t173.methods).map (fun m => (m.path, m.func)) = some (#[], some (155, false)) := by kernel_rfl
  cases hm : Array.find? (fun x => x.name == "Swap") Try.t173.methods with
  | none => rw [hm] at h; cases h
  | some m =>
    rw [hm] at h
    simp at h
    exact ⟨m, rfl, h.1, h.2⟩
theorem m_Swap (w : World) (hb : Nat) (v : Value) (h : w.cell? ⟨hb, 0, none⟩ = some v) (n : Nat) : (method (n + 1) 173 (.pointer (some ⟨hb, 0, none⟩)) "Swap").run Try.prog w = .ok (155, v) w := by
  obtain ⟨m, h1, h2, h3⟩ := row_Swap
  unfold method
  go_simp
  simp only [follow]
  go_simp
  simp only [receiverAt, Place.get]
  go_simp
  rw [chk]
  go_simp
theorem nil_Push (n : Nat) (w : World) (a : Addr) : (nilAhead (n + 1) 173 (.pointer (some a)) "Push").run Try.prog w = .ok (some false) w := by kernel_rfl
theorem row_Push : ∃ m, Array.find? (fun x => x.name == "Push") Try.t173.methods = some m ∧ m.path = #[] ∧ m.func = some (157, true) := by
  have h : (Array.find? (fun x => x.name == "Push") Try.t173.methods).map (fun m => (m.path, m.func)) = some (#[], some (157, true)) := by kernel_rfl
  cases hm : Array.find? (fun x => x.name == "Push") Try.t173.methods with
  | none => rw [hm] at h; cases h
  | some m =>
    rw [hm] at h
    simp at h
    exact ⟨m, rfl, h.1, h.2⟩
theorem m_Push (n : Nat) (w : World) (a : Addr) : (method (n + 1) 173 (.pointer (some a)) "Push").run Try.prog w = .ok (157, .pointer (some a)) w := by kernel_rfl
theorem nil_Pop (n : Nat) (w : World) (a : Addr) : (nilAhead (n + 1) 173 (.pointer (some a)) "Pop").run Try.prog w = .ok (some false) w := by kernel_rfl
theorem row_Pop : ∃ m, Array.find? (fun x => x.name == "Pop") Try.t173.methods = some m ∧ m.path = #[] ∧ m.func = some (156, true) := by
  have h : (Array.find? (fun x => x.name == "Pop") Try.t173.methods).map (fun m => (m.path, m.func)) = some (#[], some (156, true)) := by kernel_rfl
  cases hm : Array.find? (fun x => x.name == "Pop") Try.t173.methods with
  | none => rw [hm] at h; cases h
  | some m =>
    rw [hm] at h
    simp at h
    exact ⟨m, rfl, h.1, h.2⟩
theorem m_Pop (n : Nat) (w : World) (a : Addr) : (method (n + 1) 173 (.pointer (some a)) "Pop").run Try.prog w = .ok (156, .pointer (some a)) w := by kernel_rfl

/-- how a spill comes ahead of another -/
def lessB (a b : SpR) : Bool := lt a.v b.v
theorem cell_r {w : World} {g : Nat} {xs : List SpR} (hr : Rd w (some ⟨g, 0, none⟩) (scells xs)) {i : Nat} (h : i < xs.length) : w.cell? ⟨g, i * 2, none⟩ = some (.float .f32 xs[i].v) ∧ w.cell? ⟨g, i * 2 + 1, none⟩ = some (.int .i64 xs[i].k) := by
  obtain ⟨ad, e, _, hc⟩ := hr (by rintro e; have := scells_length xs; rw [e] at this; simp at this; omega)
  injection e with e
  subst e
  have h1 := hc _ _ (scells_get h).1
  have h2 := hc _ _ (scells_get h).2
  rw [lit_add] at h1 h2
  exact ⟨h1, h2⟩

set_option maxRecDepth 100000 in
set_option maxHeartbeats 1600000 in
theorem Less_any (g n c : Nat) (xs : List SpR) (i j : Nat) (w : World) (hn : xs.length = n) (hr : Rd w (some ⟨g, 0, none⟩) (scells xs)) (hi : i < n) (hj : j < n) (hb : n ≤ 4000000000) :
    Calls Try.prog 154 #[.slice (some ⟨g, 0, none⟩) n c, .int .i64 i, .int .i64 j] w fun e w' => e = .returned (.bool (lessB (xs.getD i ⟨0, 0⟩) (xs.getD j ⟨0, 0⟩))) ∧ Ext w w' := by
  subst hn
  obtain ⟨a0, a1⟩ := cell_r hr hi
  obtain ⟨b0, b1⟩ := cell_r hr hj
  rw [getD_el hi, getD_el hj]
  have i0 : (0 : Int) ≤ i := by omega
  have i1 : (i : Int) < xs.length := by omega
  have j0 : (0 : Int) ≤ j := by omega
  have j1 : (j : Int) < xs.length := by omega
  unfold lessB lt
  generalize xs[i] = a at *
  generalize xs[j] = b at *
  obtain ⟨av, ak⟩ := a
  obtain ⟨bv, bk⟩ := b
  dsimp only at a0 a1 b0 b1 ⊢
  go_enter Try.func154, Try.ntmps154
  go_wp2
  go_quiet (fail)
  go_wp2
  go_ret
  exact ⟨by first | rfl | simp, (by repeat (first | exact Ext.refl _ | assumption | refine Ext.setCell ?_ (by first | (simp; done) | (simp; omega)) _ | refine Ext.drewN ?_ _ | refine Ext.alloc ?_ _ | refine Ext.drew ?_ | refine Ext.trans ?_ (by assumption)))⟩

set_option maxRecDepth 100000 in
set_option maxHeartbeats 400000 in
theorem Len_any (g n c : Nat) (w : World) :
    Calls Try.prog 153 #[.slice (some ⟨g, 0, none⟩) n c] w fun e w' => e = .returned (.int .i64 n) ∧ w = w' := by
  go_enter Try.func153, Try.ntmps153
  go_wp2
  go_ret
  exact ⟨rfl, rfl⟩

/-- the block in which the spills lie, whole -/
def SB (w : World) (g : Nat) (xs : List SpR) (rest : List Value) : Prop := Bk w g 169 (scells xs ++ rest).toArray
theorem SB.rd {w : World} {g : Nat} {xs : List SpR} {rest : List Value} (h : SB w g xs rest) : Rd w (some ⟨g, 0, none⟩) (scells xs) := fun _ => by
  refine ⟨_, rfl, h.lt, fun j u hu => ?_⟩
  rw [lit_add, Bk.cell h, List.getElem?_toArray]
  have hj : j < (scells xs).length := by
    rcases Nat.lt_or_ge j (scells xs).length with hl | hl
    · exact hl
    · rw [List.getElem?_eq_none hl] at hu; cases hu
  rw [List.getElem?_append_left hj]
  exact hu
theorem SB.set {w : World} {g : Nat} {xs : List SpR} {rest : List Value} (h : SB w g xs rest) {i : Nat} (hi : i < xs.length) (a : SpR) : SB ((w.setCell ⟨g, i * 2, none⟩ (.float .f32 a.v)).setCell ⟨g, i * 2 + 1, none⟩ (.int .i64 a.k)) g (xs.set i a) rest := by
  have h2 := (Bk.set h (i * 2) (.float .f32 a.v)).set (i * 2 + 1) (.int .i64 a.k)
  have hl := scells_length xs
  unfold SB
  rw [← scells_set a hi]
  have e : ((scells xs ++ rest).toArray.setIfInBounds (i * 2) (.float .f32 a.v)).setIfInBounds (i * 2 + 1) (.int .i64 a.k) = (((scells xs).set (i * 2) (.float .f32 a.v)).set (i * 2 + 1) (.int .i64 a.k) ++ rest).toArray := by
    rw [List.setIfInBounds_toArray, List.setIfInBounds_toArray, List.set_append_left _ _ (by omega), List.set_append_left _ _ (by simp; omega)]
  rw [e] at h2
  exact h2
theorem SB.swap {w : World} {g : Nat} {xs : List SpR} {rest : List Value} (h : SB w g xs rest) {i j : Nat} (hi : i < xs.length) (hj : j < xs.length) :
    SB ((((w.setCell ⟨g, i * 2, none⟩ (.float .f32 (xs.getD j ⟨0, 0⟩).v)).setCell ⟨g, i * 2 + 1, none⟩ (.int .i64 (xs.getD j ⟨0, 0⟩).k)).setCell ⟨g, j * 2, none⟩ (.float .f32 (xs.getD i ⟨0, 0⟩).v)).setCell ⟨g, j * 2 + 1, none⟩ (.int .i64 (xs.getD i ⟨0, 0⟩).k)) g (swapL xs i j) rest :=
  (h.set hi _).set (by simpa using hj) _

theorem grown_gset {a w : World} {g : Nat} (h : a.grownBy w (some g)) (o : Nat) (u : Value) : a.grownBy (w.setCell ⟨g, o, none⟩ u) (some g) :=
  ⟨h.os, h.tape, h.output, by simpa [World.setCell] using h.size, fun i hi hn => (Below.heap_setCell w ⟨g, o, none⟩ u i (fun e => hn (by rw [e]))).trans (h.block i hi hn)⟩
set_option maxRecDepth 100000 in
set_option maxHeartbeats 1600000 in
theorem Swap_any (g n c : Nat) (xs : List SpR) (rest : List Value) (i j : Nat) (w : World) (hn : xs.length = n) (hr : SB w g xs rest) (hi : i < n) (hj : j < n) (hb : n ≤ 4000000000) :
    Calls Try.prog 155 #[.slice (some ⟨g, 0, none⟩) n c, .int .i64 i, .int .i64 j] w fun e w' => e = .returned (.tuple #[]) ∧ SB w' g (swapL xs i j) rest ∧ w.grownBy w' (some g) := by
  subst hn
  obtain ⟨a0, a1⟩ := cell_r hr.rd hi
  obtain ⟨b0, b1⟩ := cell_r hr.rd hj
  have hs := hr.swap hi hj
  rw [getD_el hi, getD_el hj] at hs
  have i0 : (0 : Int) ≤ i := by omega
  have i1 : (i : Int) < xs.length := by omega
  have j0 : (0 : Int) ≤ j := by omega
  have j1 : (j : Int) < xs.length := by omega
  have f0 : ∀ k, w.frozen? ⟨g, k, none⟩ = false := fun k => Bk.frozen hr k
  generalize xs[i] = a at *
  generalize xs[j] = b at *
  obtain ⟨av, ak⟩ := a
  obtain ⟨bv, bk⟩ := b
  dsimp only at a0 a1 b0 b1 hs
  have Hs := hidA hs
  clear hs hr
  obtain ⟨u1, q1⟩ := cell?_setCell_some (w := w) (p := ⟨g, i * 2, none⟩) (x := .float .f32 bv) (q := ⟨g, j * 2, none⟩) b0
  obtain ⟨u3, q3⟩ := cell?_setCell_some (w := w) (p := ⟨g, i * 2, none⟩) (x := .float .f32 bv) (q := ⟨g, j * 2 + 1, none⟩) b1
  obtain ⟨u2, q2⟩ := cell?_setCell_some (w := w.setCell ⟨g, i * 2, none⟩ (.float .f32 bv)) (p := ⟨g, i * 2 + 1, none⟩) (x := .int .i64 bk) (q := ⟨g, j * 2 + 1, none⟩) q3
  clear q3
  go_enter Try.func155, Try.ntmps155
  go_wp2
  go_region
  refine bodyPost_end (results_none Try.results155 _ _ _) rfl ?_
  refine ⟨rfl, Hs.out, ?_⟩
  exact grown_drew' (grown_gset (grown_gset (grown_gset (grown_gset (World.grownBy.refl w _) _ _) _ _) _ _) _ _)
end Go.Proofs.Ytpgdinpckolfpaa
