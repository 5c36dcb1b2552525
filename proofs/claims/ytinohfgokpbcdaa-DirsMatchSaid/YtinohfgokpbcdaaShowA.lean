/- Contracts: water.point, water.Shower; the walk of the law ShowersArePlaces. -/
import Derived.Test.YtinohfgokpbcdaaGridB
import Derived.Test.YtinohfgokpbcdaaMixA
import Derived.Test.YtinohfgokpbcdaaFlows
import Derived.StillTailTactics
namespace Go.Proofs.Ytinohfgokpbcdaa
open Go.RowKit
attribute [local go_sem ↓] Go.wp_at_zero Go.wp_at_succ

theorem put_mk (ts : List Value) (df : List Deferred) (n : Nat) (v : Value) : Act.put ⟨ts.toArray, df⟩ (some n) v = ⟨(ts.set n v).toArray, df⟩ := by simp [Act.put]
def colK (X : Int) (Wn k : Nat) : Int := X + ((k % Wn : Nat) : Int)
def rowK (Y : Int) (Wn k : Nat) : Int := Y + ((k / Wn : Nat) : Int)
set_option maxRecDepth 100000 in
set_option maxHeartbeats 1600000 in
theorem point_any (X Y : Int) (Wn Hn k : Nat) (w : World) (hr : Reg X Y Wn Hn) (hk : k < Wn * Hn) :
    Calls Try.prog 86 #[rgv X Y Wn Hn, .int .i64 k] w fun e w' => e = .returned (.agg #[.int .i64 (colK X Wn k), .int .i64 (rowK Y Wn k)]) ∧ Ext w w' := by
  obtain ⟨f1, f2⟩ := grid_facts hr.w1 hk
  have hk6 : k < 65536 := Nat.lt_of_lt_of_le hk hr.n
  have z1 := hr.w1
  have z2 := hr.w2
  have z3 := hr.h2
  have x1 := hr.x1
  have x2 := hr.x2
  have y1' := hr.y1
  have y2' := hr.y2
  have e1 := hidA (show (k : Int) % (Wn : Int) = ((k % Wn : Nat) : Int) from rfl)
  have e2 := hidA (show (k : Int) / (Wn : Int) = ((k / Wn : Nat) : Int) from rfl)
  have ec := hidA (show colK X Wn k = X + ((k % Wn : Nat) : Int) from rfl)
  have er := hidA (show rowK Y Wn k = Y + ((k / Wn : Nat) : Int) from rfl)
  generalize colK X Wn k = cx at *
  generalize rowK Y Wn k = cy at *
  generalize k % Wn = a at *
  generalize k / Wn = b at *
  have q1 : wrap64 (b : Int) = b := IntWalk.wrap64_in _ ⟨by omega, by omega⟩
  have q4 : IntKind.i64.wrap (b : Int) = b := IntWalk.i64_in _ ⟨by omega, by omega⟩
  have q2 : IntKind.i64.wrap (X + (a : Int)) = X + (a : Int) := IntWalk.i64_in _ ⟨by omega, by omega⟩
  have q3 : IntKind.i64.wrap (Y + (b : Int)) = Y + (b : Int) := IntWalk.i64_in _ ⟨by omega, by omega⟩
  clear hr hk
  have y1 : (1 : Int) ≤ Wn := by omega
  have y2 : (0 : Int) ≤ k := by omega
  have t1 : ((k : Int).tmod (Wn : Int)) = (a : Int) := by rw [Int.tmod_eq_emod_of_nonneg (by omega), e1.out]
  have t2 : ((k : Int).tdiv (Wn : Int)) = (b : Int) := by rw [Int.tdiv_eq_ediv_of_nonneg (by omega), e2.out]
  have t3 : (Wn = 0) = False := by simp; omega
  clear e1 e2
  unfold rgv
  go_enter Try.func86, Try.ntmps86
  go_wp2
  have kR : Bk (w.alloc (.cells #[.int .i64 X, .int .i64 Y, .int .i64 (Wn : Int), .int .i64 (Hn : Int)] 23)) w.heap.size 23 #[.int .i64 X, .int .i64 Y, .int .i64 (Wn : Int), .int .i64 (Hn : Int)] := Bk.new' rfl
  have hx0 : Ext w (w.alloc (.cells #[.int .i64 X, .int .i64 Y, .int .i64 (Wn : Int), .int .i64 (Hn : Int)] 23)) := (Ext.refl w).alloc _
  have hsz : (w.alloc (.cells #[.int .i64 X, .int .i64 Y, .int .i64 (Wn : Int), .int .i64 (Hn : Int)] 23)).heap.size = w.heap.size + 1 := by simp
  rw [← hsz]
  generalize w.alloc (.cells #[.int .i64 X, .int .i64 Y, .int .i64 (Wn : Int), .int .i64 (Hn : Int)] 23) = w0 at *
  have c0 : ∀ w', Ext w0 w' → w'.cell? ⟨w.heap.size, 0, none⟩ = some (.int .i64 X) := fun w' h => (kR.ext h).cell 0
  have c1 : ∀ w', Ext w0 w' → w'.cell? ⟨w.heap.size, 1, none⟩ = some (.int .i64 Y) := fun w' h => (kR.ext h).cell 1
  have c2 : ∀ w', Ext w0 w' → w'.cell? ⟨w.heap.size, 2, none⟩ = some (.int .i64 (Wn : Int)) := fun w' h => (kR.ext h).cell 2
  refine wp_region_noPanic ?_
  refine wp_region_held_drew (S := fun w' => Ext w0 w') (by kernel_rfl) ?_ (fun hHeld => ?_)
  · (repeat (first | exact Ext.refl _ | assumption | refine Ext.setCell ?_ (by first | (simp; done) | (simp; omega)) _ | refine Ext.drewN ?_ _ | refine Ext.alloc ?_ _ | refine Ext.drew ?_ | refine Ext.trans ?_ (by assumption)))
  refine wpAnyH_take (i := 0) (oi := ?o1x0) (v := ?v1x0) ?hi1x0 (by kernel_rfl) ?hf1x0 ?hr1x0 (fun _ _ _ h => h) ?hy1x0 (by assumption) ?rest1x0
  case hi1x0 => (simp only [List.getElem?_toArray, List.getElem?_cons_zero]; exact rfl)
  case hf1x0 => kernel_rfl
  case hr1x0 => kernel_rfl
  case hy1x0 => (refine Or.inl ⟨by rfl, ?_⟩; intro w hSw; (try dsimp only at hSw); go_simp; try with_reducible rfl)
  simp only [put_mk, List.set_cons_succ, List.set_cons_zero]
  refine wpAnyH_take (i := 1) (oi := ?o1x1) (v := ?v1x1) ?hi1x1 (by kernel_rfl) ?hf1x1 ?hr1x1 (fun _ _ _ h => h) ?hy1x1 (by assumption) ?rest1x1
  case hi1x1 => (simp only [List.getElem?_toArray, List.getElem?_cons_succ, List.getElem?_cons_zero]; exact rfl)
  case hf1x1 => kernel_rfl
  case hr1x1 => kernel_rfl
  case hy1x1 => (refine Or.inl ⟨by rfl, ?_⟩; intro w hSw; (try dsimp only at hSw); go_simp; try with_reducible rfl)
  simp only [put_mk, List.set_cons_succ, List.set_cons_zero]
  refine wpAnyH_take (i := 2) (oi := ?o1x2) (v := ?v1x2) ?hi1x2 (by kernel_rfl) ?hf1x2 ?hr1x2 (fun _ _ _ h => h) ?hy1x2 (by assumption) ?rest1x2
  case hi1x2 => (simp only [List.getElem?_toArray, List.getElem?_cons_succ, List.getElem?_cons_zero]; exact rfl)
  case hf1x2 => kernel_rfl
  case hr1x2 => kernel_rfl
  case hy1x2 => (refine Or.inl ⟨by rfl, ?_⟩; intro w hSw; (try dsimp only at hSw); go_simp; try with_reducible rfl)
  simp only [put_mk, List.set_cons_succ, List.set_cons_zero]
  refine wpAnyH_take (i := 3) (oi := ?o1x3) (v := ?v1x3) ?hi1x3 (by kernel_rfl) ?hf1x3 ?hr1x3 (fun _ _ _ h => h) ?hy1x3 (by assumption) ?rest1x3
  case hi1x3 => (simp only [List.getElem?_toArray, List.getElem?_cons_succ, List.getElem?_cons_zero]; exact rfl)
  case hf1x3 => kernel_rfl
  case hr1x3 => kernel_rfl
  case hy1x3 => (refine Or.inl ⟨by rfl, ?_⟩; intro w hSw; (try dsimp only at hSw); go_simp; try with_reducible rfl)
  simp only [put_mk, List.set_cons_succ, List.set_cons_zero]
  refine wpAnyH_take (i := 4) (oi := ?o1x4) (v := ?v1x4) ?hi1x4 (by kernel_rfl) ?hf1x4 ?hr1x4 (fun _ _ _ h => h) ?hy1x4 (by assumption) ?rest1x4
  case hi1x4 => (simp only [List.getElem?_toArray, List.getElem?_cons_succ, List.getElem?_cons_zero]; exact rfl)
  case hf1x4 => kernel_rfl
  case hr1x4 => kernel_rfl
  case hy1x4 => (refine Or.inl ⟨by rfl, ?_⟩; intro w hSw; (try dsimp only at hSw); go_simp; try with_reducible rfl)
  simp only [put_mk, List.set_cons_succ, List.set_cons_zero]
  refine wpAnyH_take (i := 5) (oi := ?o1x5) (v := ?v1x5) ?hi1x5 (by kernel_rfl) ?hf1x5 ?hr1x5 (fun _ _ _ h => h) ?hy1x5 (by assumption) ?rest1x5
  case hi1x5 => (simp only [List.getElem?_toArray, List.getElem?_cons_succ, List.getElem?_cons_zero]; exact rfl)
  case hf1x5 => kernel_rfl
  case hr1x5 => kernel_rfl
  case hy1x5 => (refine Or.inl ⟨by rfl, ?_⟩; intro w hSw; (try dsimp only at hSw); go_simp; try with_reducible rfl)
  simp only [put_mk, List.set_cons_succ, List.set_cons_zero]
  refine wpAnyH_take (i := 6) (oi := ?o1x6) (v := ?v1x6) ?hi1x6 (by kernel_rfl) ?hf1x6 ?hr1x6 (fun _ _ _ h => h) ?hy1x6 (by assumption) ?rest1x6
  case hi1x6 => (simp only [List.getElem?_toArray, List.getElem?_cons_succ, List.getElem?_cons_zero]; exact rfl)
  case hf1x6 => kernel_rfl
  case hr1x6 => kernel_rfl
  case hy1x6 => (refine Or.inl ⟨by rfl, ?_⟩; intro w hSw; (try dsimp only at hSw); go_simp; try with_reducible rfl)
  simp only [put_mk, List.set_cons_succ, List.set_cons_zero]
  refine wpAnyH_take (i := 7) (oi := ?o1x7) (v := ?v1x7) ?hi1x7 (by kernel_rfl) ?hf1x7 ?hr1x7 (fun _ _ _ h => h) ?hy1x7 (by assumption) ?rest1x7
  case hi1x7 => (simp only [List.getElem?_toArray, List.getElem?_cons_succ, List.getElem?_cons_zero]; exact rfl)
  case hf1x7 => kernel_rfl
  case hr1x7 => kernel_rfl
  case hy1x7 => (refine Or.inl ⟨by rfl, ?_⟩; intro w hSw; (try dsimp only at hSw); go_simp; try with_reducible rfl)
  simp only [put_mk, List.set_cons_succ, List.set_cons_zero]
  refine wpAnyH_take (i := 8) (oi := ?o1x8) (v := ?v1x8) ?hi1x8 (by kernel_rfl) ?hf1x8 ?hr1x8 (fun _ _ _ h => h) ?hy1x8 (by assumption) ?rest1x8
  case hi1x8 => (simp only [List.getElem?_toArray, List.getElem?_cons_succ, List.getElem?_cons_zero]; exact rfl)
  case hf1x8 => kernel_rfl
  case hr1x8 => kernel_rfl
  case hy1x8 => (refine Or.inl ⟨by rfl, ?_⟩; intro w hSw; (try dsimp only at hSw); go_simp; try with_reducible rfl)
  simp only [put_mk, List.set_cons_succ, List.set_cons_zero]
  refine wpAnyH_take (i := 9) (oi := ?o1x9) (v := ?v1x9) ?hi1x9 (by kernel_rfl) ?hf1x9 ?hr1x9 (fun _ _ _ h => h) ?hy1x9 (by assumption) ?rest1x9
  case hi1x9 => (simp only [List.getElem?_toArray, List.getElem?_cons_succ, List.getElem?_cons_zero]; exact rfl)
  case hf1x9 => kernel_rfl
  case hr1x9 => kernel_rfl
  case hy1x9 => (refine Or.inl ⟨by rfl, ?_⟩; intro w hSw; (try dsimp only at hSw); go_simp; try with_reducible rfl)
  simp only [put_mk, List.set_cons_succ, List.set_cons_zero]
  refine wpAnyH_take (i := 10) (oi := ?o1x10) (v := ?v1x10) ?hi1x10 (by kernel_rfl) ?hf1x10 ?hr1x10 (fun _ _ _ h => h) ?hy1x10 (by assumption) ?rest1x10
  case hi1x10 => (simp only [List.getElem?_toArray, List.getElem?_cons_succ, List.getElem?_cons_zero]; exact rfl)
  case hf1x10 => kernel_rfl
  case hr1x10 => kernel_rfl
  case hy1x10 => (refine Or.inl ⟨by rfl, ?_⟩; intro w hSw; (try dsimp only at hSw); go_simp; try with_reducible rfl)
  simp only [put_mk, List.set_cons_succ, List.set_cons_zero]
  refine wpAnyH_take (i := 11) (oi := ?o1x11) (v := ?v1x11) ?hi1x11 (by kernel_rfl) ?hf1x11 ?hr1x11 (fun _ _ _ h => h) ?hy1x11 (by assumption) ?rest1x11
  case hi1x11 => (simp only [List.getElem?_toArray, List.getElem?_cons_succ, List.getElem?_cons_zero]; exact rfl)
  case hf1x11 => kernel_rfl
  case hr1x11 => kernel_rfl
  case hy1x11 => (refine Or.inl ⟨by rfl, ?_⟩; intro w hSw; (try dsimp only at hSw); go_simp; try with_reducible rfl)
  simp only [put_mk, List.set_cons_succ, List.set_cons_zero]
  refine wpAnyH_take (i := 12) (oi := ?o1x12) (v := ?v1x12) ?hi1x12 (by kernel_rfl) ?hf1x12 ?hr1x12 (fun _ _ _ h => h) ?hy1x12 (by assumption) ?rest1x12
  case hi1x12 => (simp only [List.getElem?_toArray, List.getElem?_cons_succ, List.getElem?_cons_zero]; exact rfl)
  case hf1x12 => kernel_rfl
  case hr1x12 => kernel_rfl
  case hy1x12 => (refine Or.inl ⟨by rfl, ?_⟩; intro w hSw; (try dsimp only at hSw); go_simp; try with_reducible rfl)
  simp only [put_mk, List.set_cons_succ, List.set_cons_zero]
  refine wpAnyH_take (i := 13) (oi := ?o1x13) (v := ?v1x13) ?hi1x13 (by kernel_rfl) ?hf1x13 ?hr1x13 (fun _ _ _ h => h) ?hy1x13 (by assumption) ?rest1x13
  case hi1x13 => (simp only [List.getElem?_toArray, List.getElem?_cons_succ, List.getElem?_cons_zero]; exact rfl)
  case hf1x13 => kernel_rfl
  case hr1x13 => kernel_rfl
  case hy1x13 => (refine Or.inl ⟨by rfl, ?_⟩; intro w hSw; (try dsimp only at hSw); go_simp; try with_reducible rfl)
  simp only [put_mk, List.set_cons_succ, List.set_cons_zero]
  refine wpAnyH_take (i := 14) (oi := ?o1x14) (v := ?v1x14) ?hi1x14 (by kernel_rfl) ?hf1x14 ?hr1x14 (fun _ _ _ h => h) ?hy1x14 (by assumption) ?rest1x14
  case hi1x14 => (simp only [List.getElem?_toArray, List.getElem?_cons_succ, List.getElem?_cons_zero]; exact rfl)
  case hf1x14 => kernel_rfl
  case hr1x14 => kernel_rfl
  case hy1x14 => (refine Or.inl ⟨by rfl, ?_⟩; intro w hSw; (try dsimp only at hSw); go_simp; try with_reducible rfl)
  simp only [put_mk, List.set_cons_succ, List.set_cons_zero]
  refine wpAnyH_ready (rs := [15]) (by kernel_rfl) (by simp) ?_
  refine AllReadyH.cons (o := ?o1x15) ?hi1x15 (fun K hK => ?_) AllReadyH.nil
  case hi1x15 => (simp only [List.getElem?_toArray, List.getElem?_cons_succ, List.getElem?_cons_zero]; exact rfl)
  go_simp
  refine hK.out _ _ ?_ (fun hHeld => ?_)
  · (repeat (first | exact Ext.refl _ | assumption | refine Ext.setCell ?_ (by first | (simp; done) | (simp; omega)) _ | refine Ext.drewN ?_ _ | refine Ext.alloc ?_ _ | refine Ext.drew ?_ | refine Ext.trans ?_ (by assumption)))
  clear hK K
  refine wpAnyH_done (by kernel_rfl) ?_ _
  refine NoPanic.normal ?_

  go_wp2
  refine bodyPost_ret (v := .agg #[.int .i64 cx, .int .i64 cy]) (by simp [results, Try.results86, go_sem, ← hsz, ec.out, er.out]) rfl ⟨rfl, ?_⟩
  exact hx0.trans (((Ext.refl w0).alloc _).drew)

/-- rain of a cell -/
def rainK (X Y : Int) (Wn : Nat) (s most : Int) (k : Nat) : Int := mixK s (colK X Wn k) (rowK Y Wn k) 2 3 % (most + 1)
def intB (m : Nat) (f : Nat → Int) : Array Value := ((List.range m).map fun k => Value.int .i64 (f k)).toArray
theorem intB_get {m k : Nat} (f : Nat → Int) (hk : k < m) : (intB m f)[k]? = some (.int .i64 (f k)) := by
  unfold intB
  rw [List.getElem?_toArray, List.getElem?_map, List.getElem?_range hk]
  rfl
theorem intB_set {m k : Nat} (f : Nat → Int) (x : Int) : (intB m f).setIfInBounds k (.int .i64 x) = intB m (updF f k x) := by
  apply Array.ext
  · simp [intB]
  · intro j h1 h2
    have hj : j < m := by simpa [intB] using h2
    have e1 : (intB m (updF f k x))[j] = .int .i64 (updF f k x j) := by simp [intB]
    have e2 : (intB m f)[j]'(by simpa [intB] using hj) = .int .i64 (f j) := by simp [intB]
    rw [Array.getElem_setIfInBounds (by simpa [intB] using hj), e1, e2]
    unfold updF
    by_cases h : k = j
    · rw [if_pos h, if_pos h.symm]
    · rw [if_neg h, if_neg (fun e => h e.symm)]
theorem intB_congr {m : Nat} {f g : Nat → Int} (h : ∀ k, k < m → f k = g k) : intB m f = intB m g := by
  unfold intB
  congr 1
  apply List.map_congr_left
  intro k hk
  rw [h k (List.mem_range.1 hk)]
theorem intB_list (m : Nat) (f : Nat → Int) : (intB m f).toList = ((List.range m).map f).map (.int .i64) := by simp [intB]
theorem infoInt : (Try.prog.info? 3).map (fun i => (i.zero, i.size, i.bytes)) = some (some (.int .i64 0), 1, 8) := by kernel_rfl
theorem mk_int (n : Nat) (hn : n ≤ 262144) (w : World) : (Instr.makeSlice 41 (.int .i64 (n : Int)) (.int .i64 (n : Int))).run Try.prog w =
    .ok (.slice (some ⟨w.heap.size, 0, none⟩) n n) (w.alloc (.cells (intB n fun _ => 0) 3)) := by
  obtain ⟨i0, hi0, hz0, hz1, hz2⟩ := info_parts infoInt
  have h := run_make (P := Try.prog) w 41 3 i0 (.int .i64 0) Try.underlying41 hi0 hz0 .i64 .i64 n n (by omega) (by omega) (by rw [hz2]; omega) (by omega)
  rw [hz1] at h
  have e : madeCells (Value.int .i64 0).cells ((n : Int).toNat * 1) = intB n fun _ => 0 := by
    rw [Int.toNat_natCast]
    unfold madeCells intB
    apply Array.ext
    · simp
    · intro i h1 h2
      simp [Value.cells, Nat.mod_one]
  rw [e] at h
  simpa using h
/-- the error of rain -/
def showE (x y ww hh most : Int) : Int := if regE x y ww hh ≠ 0 then regE x y ww hh else if most < 0 ∨ 1048576 < most then 3 else 0
set_option maxRecDepth 100000 in
set_option maxHeartbeats 1600000 in
theorem Shower_bad (x y ww hh s most : Int) (w : World) (hE : showE x y ww hh most ≠ 0) :
    Calls Try.prog 25 #[.agg #[.int .i64 x, .int .i64 y, .int .i64 ww, .int .i64 hh], .int .u32 s, .int .i64 most] w fun e w' => e = .returned (.tuple #[.slice none 0 0, .int .i64 (showE x y ww hh most)]) ∧ Ext w w' := by
  have HC := fun (w : World) => hidA (checkRegion_any x y ww hh w)
  unfold showE at hE ⊢
  generalize regE x y ww hh = f1 at *
  by_cases h1 : f1 = 0
  · subst h1
    rw [if_neg (by decide)] at hE ⊢
    by_cases h2 : most < 0 ∨ 1048576 < most
    · rw [if_pos h2]
      clear hE
      rcases h2 with h2 | h2
      · go_enter Try.func25, Try.ntmps25
        go_wp2_with (go_at_call 85; refine ((HC _).out).mono ?_; rintro e w1 ⟨rfl, hx1⟩)
        go_ret2
        exact ⟨rfl, (by repeat (first | (with_reducible exact Ext.refl _) | (with_reducible assumption) | (with_reducible refine Ext.setCell ?_ (by first | (simp; done) | (simp; omega)) _) | (with_reducible refine Ext.drewN ?_ _) | (with_reducible refine Ext.alloc ?_ _) | (with_reducible refine Ext.drew ?_) | (with_reducible refine Ext.trans ?_ (by assumption))))⟩
      · have h3 : ¬ most < 0 := by omega
        go_enter Try.func25, Try.ntmps25
        go_wp2_with (go_at_call 85; refine ((HC _).out).mono ?_; rintro e w1 ⟨rfl, hx1⟩)
        go_ret2
        exact ⟨rfl, (by repeat (first | (with_reducible exact Ext.refl _) | (with_reducible assumption) | (with_reducible refine Ext.setCell ?_ (by first | (simp; done) | (simp; omega)) _) | (with_reducible refine Ext.drewN ?_ _) | (with_reducible refine Ext.alloc ?_ _) | (with_reducible refine Ext.drew ?_) | (with_reducible refine Ext.trans ?_ (by assumption))))⟩
    · exact absurd (if_neg h2) hE
  · have h1' : (f1 != 0) = true := by simpa using h1
    rw [if_pos h1]
    clear hE h1
    go_enter Try.func25, Try.ntmps25
    go_wp2_with (go_at_call 85; refine ((HC _).out).mono ?_; rintro e w1 ⟨rfl, hx1⟩)
    go_ret2
    exact ⟨rfl, (by repeat (first | (with_reducible exact Ext.refl _) | (with_reducible assumption) | (with_reducible refine Ext.setCell ?_ (by first | (simp; done) | (simp; omega)) _) | (with_reducible refine Ext.drewN ?_ _) | (with_reducible refine Ext.alloc ?_ _) | (with_reducible refine Ext.drew ?_) | (with_reducible refine Ext.trans ?_ (by assumption))))⟩

set_option maxRecDepth 100000 in
set_option maxHeartbeats 3200000 in
theorem Shower_ok (X Y s most : Int) (Wn Hn N : Nat) (w : World) (hr : Reg X Y Wn Hn) (hN : N = Wn * Hn) (hr0 : regE X Y Wn Hn = 0) (h0 : 0 ≤ most) (h1 : most ≤ 1048576) :
    Calls Try.prog 25 #[rgv X Y Wn Hn, .int .u32 s, .int .i64 most] w fun e w' => ∃ g, e = .returned (.tuple #[.slice (some ⟨g, 0, none⟩) N N, .int .i64 0]) ∧ Bk w' g 3 (intB N (rainK X Y Wn s most)) ∧ Ext w w' := by
  have hN6 : N ≤ 65536 := by rw [hN]; exact hr.n
  have HC := fun (w : World) => hidA (checkRegion_any X Y Wn Hn w)
  rw [hr0] at HC
  have HP := fun (k : Nat) (w : World) (h : k < N) => hidA (point_any X Y Wn Hn k w hr (by rw [← hN]; exact h))
  have W1 : wrap64 ((Wn : Int) * (Hn : Int)) = (N : Int) := by rw [← Int.natCast_mul, ← hN]; exact IntWalk.wrap64_in _ ⟨by omega, by omega⟩
  have W2 : (Wn : Int) * (Hn : Int) = (N : Int) := by rw [← Int.natCast_mul, ← hN]
  have mk := mk_int N (by omega)
  have h2 : ¬ most < 0 := by omega
  have h3 : ¬ 1048576 < most := by omega
  clear hr hr0
  have HNN := hidA hN
  clear hN
  unfold rgv at HP ⊢
  go_enter Try.func25, Try.ntmps25
  go_upto_region 6 with (go_at_call 85; refine ((HC _).out).mono ?_; rintro e w1 ⟨rfl, hx1⟩)
  have kR : Bk w1 w.heap.size 23 #[.int .i64 X, .int .i64 Y, .int .i64 (Wn : Int), .int .i64 (Hn : Int)] := (Bk.new' rfl).ext hx1
  have c2 := kR.cell 2
  have c3 := kR.cell 3
  go_upto_region 7 with fail
  have hx2 : Ext w (w1.alloc (.cells (intB N fun _ => 0) 3)) := (((Ext.refl w).alloc _).trans hx1).alloc _
  have kR2 := kR.alloc (.cells (intB N fun _ => 0) 3)
  have kI : Bk (w1.alloc (.cells (intB N fun _ => 0) 3)) w1.heap.size 3 (intB N fun _ => 0) := Bk.new' rfl
  have hgl : w.heap.size < w1.heap.size := kR.lt
  generalize w1.alloc (.cells (intB N fun _ => 0) 3) = w2 at *
  generalize w1.heap.size = g at *
  clear c2 c3 mk kR hx1 HC
  go_wp2
  go_loopw [31] (fun s31 wr => ∃ (k : Nat) (f : Nat → Int), k ≤ N ∧ s31 = .int .i64 k ∧ Bk wr g 3 (intB N f) ∧ (∀ j, j < k → f j = rainK X Y Wn s most j) ∧ Bk wr w.heap.size 23 #[.int .i64 X, .int .i64 Y, .int .i64 (Wn : Int), .int .i64 (Hn : Int)] ∧ Ext w wr) (fun s31 _ => N - (intOf s31).toNat)
  case atStart => exact ⟨0, _, Nat.zero_le _, rfl, kI, (fun j h => by omega), kR2, hx2⟩
  case round =>
    clear kI kR2 hx2
    obtain ⟨k, f, hk, rfl, kI, hf, kR, hx⟩ := hrel
    have Hf := hidA hf
    clear hf
    by_cases hkN : k < N
    · have c0 := kR.cell 0
      have c1 := kR.cell 1
      have c2 := kR.cell 2
      have c3 := kR.cell 3
      have hm := mixK_in s (colK X Wn k) (rowK Y Wn k) 2 3 (by omega)
      obtain ⟨m1, m2⟩ := hm
      have HRn := hidA (show rainK X Y Wn s most k = mixK s (colK X Wn k) (rowK Y Wn k) 2 3 % (most + 1) from rfl)
      have HH := fun (w : World) => hidA (hash_any s (colK X Wn k) (rowK Y Wn k) 2 w)
      have HPk := fun (w : World) => HP k w hkN
      generalize colK X Wn k = cx at *
      generalize rowK Y Wn k = cy at *
      generalize mixK s cx cy 2 3 = mx at *
      have u1 : IntKind.u32.wrap (most + 1) = most + 1 := by simp [IntKind.wrap, IntKind.signed, IntKind.bits]; omega
      have k0 : (0 : Int) ≤ k := by omega
      have k1 : (k : Int) < N := by omega
      go_upto_region 11 with (go_at_call 86; refine ((HPk _).out).mono ?_; rintro e w3 ⟨rfl, hx3⟩)
      have kI3 := (kI.ext hx3).alloc (.cells #[.int .i64 cx, .int .i64 cy] 76)
      have kR3 := (kR.ext hx3).alloc (.cells #[.int .i64 cx, .int .i64 cy] 76)
      have kP3 : Bk (w3.alloc (.cells #[.int .i64 cx, .int .i64 cy] 76)) w3.heap.size 76 #[.int .i64 cx, .int .i64 cy] := Bk.new' rfl
      have hx4 : Ext w (w3.alloc (.cells #[.int .i64 cx, .int .i64 cy] 76)) := (hx.trans hx3).alloc _
      generalize w3.alloc (.cells #[.int .i64 cx, .int .i64 cy] 76) = w4 at *
      clear c0 c1 c2 c3 kI kR hx hx3
      have p0 := kP3.cell 0
      have p1 := kP3.cell 1
      have o1 : w4.cell? ⟨g, k, none⟩ = some (.int .i64 (f k)) := by rw [kI3.cell]; exact intB_get _ hkN
      have f1 := kI3.frozen k
      go_wp2_with (go_at_call 87; refine ((HH _).out).mono ?_; rintro e w5 ⟨rfl, rfl⟩)
      have hv : wrap64 (mx % (most + 1)) = mx % (most + 1) := IntWalk.wrap64_in _ ⟨by have := Int.emod_nonneg mx (show most + 1 ≠ 0 by omega); omega, by have := Int.emod_lt_of_pos mx (show 0 < most + 1 by omega); omega⟩
      have kI6 := Bk.set kI3 k (.int .i64 (mx % (most + 1)))
      rw [intB_set] at kI6
      have kR6 := kR3.far (p := ⟨g, k, none⟩) (by simp; omega) (.int .i64 (mx % (most + 1)))
      have hx6 := hx4.setCell (p := ⟨g, k, none⟩) (by simp; omega) (.int .i64 (mx % (most + 1)))
      rw [hv]
      go_roundw
      case rel =>
        refine ⟨k + 1, _, by omega, by go_num, kI6, fun j hj => ?_, kR6, hx6⟩
        by_cases e : j = k
        · subst e
          rw [updF_same, HRn.out]
        · rw [updF_ne _ _ e]
          exact Hf.out j (by omega)
      case measure => simp [intOf]; omega
    · have hkN' : N = k := by omega
      subst hkN'
      have hend := hidA (show Bk wr g 3 (intB N (rainK X Y Wn s most)) from by rw [intB_congr (g := f) (fun j hj => (Hf.out j hj).symm)]; exact kI)
      go_wp2
      go_ret2
      exact ⟨g, rfl, hend.out, hx⟩
end Go.Proofs.Ytinohfgokpbcdaa
