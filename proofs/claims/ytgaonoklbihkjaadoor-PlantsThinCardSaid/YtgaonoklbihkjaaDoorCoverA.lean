/- Contracts: the closures of plant.Cover and plant.Shade, plant.checkRegion. -/
import Derived.Test.YtgaonoklbihkjaaDoorSpreadA
import Derived.OwnWalk
import Derived.BigRegion
import Derived.BigQuiet
namespace Go.Proofs.YtgaonoklbihkjaaDoor
open Go.RowKit
attribute [local go_sem ↓] Go.wp_at_zero Go.wp_at_succ
attribute [local go_sem] run_store_float

def flo (N : Nat) (g : Nat → Nat) : Array Value := ((List.range N).map fun k => Value.float .f32 (g k)).toArray
theorem flo_get {N k : Nat} (g : Nat → Nat) (hk : k < N) : (flo N g)[k]? = some (.float .f32 (g k)) := by
  unfold flo
  rw [List.getElem?_toArray, List.getElem?_map, List.getElem?_range hk]
  rfl
theorem flo_set {N k : Nat} (g : Nat → Nat) (v : Nat) : (flo N g).setIfInBounds k (.float .f32 v) = flo N (putG g k v) := by
  apply Array.ext
  · simp [flo]
  · intro j h1 h2
    have hj : j < N := by simpa [flo] using h2
    have e1 : (flo N (putG g k v))[j] = .float .f32 (putG g k v j) := by simp [flo]
    have e2 : (flo N g)[j]'(by simpa [flo] using hj) = .float .f32 (g j) := by simp [flo]
    rw [Array.getElem_setIfInBounds (by simpa [flo] using hj), e1, e2]
    unfold putG
    by_cases h : k = j
    · rw [if_pos h, if_pos h.symm]
    · rw [if_neg h, if_neg (fun e => h e.symm)]
theorem flo_congr {N : Nat} {f g : Nat → Nat} (h : ∀ k, k < N → f k = g k) : flo N f = flo N g := by
  unfold flo
  congr 1
  exact List.map_congr_left fun k hk => by rw [h k (List.mem_range.1 hk)]
theorem flo_list (N : Nat) (g : Nat → Nat) : (flo N g).toList = flt ((List.range N).map g) := by simp [flo, flt]
theorem infoFlo : (Tryd.prog.info? 24).map (fun i => (i.zero, i.size, i.bytes)) = some (some (.float .f32 0), 1, 4) := by kernel_rfl
theorem mk_flo (n : Nat) (hn : n ≤ 262144) (w : World) : (Instr.makeSlice 53 (.int .i64 (n : Int)) (.int .i64 (n : Int))).run Tryd.prog w =
    .ok (.slice (some ⟨w.heap.size, 0, none⟩) n n) (w.alloc (.cells (flo n fun _ => 0) 24)) := by
  obtain ⟨i0, hi0, hz0, hz1, hz2⟩ := info_parts infoFlo
  have h := run_make (P := Tryd.prog) w 53 24 i0 (.float .f32 0) Tryd.underlying53 hi0 hz0 .i64 .i64 n n (by omega) (by omega) (by rw [hz2]; omega) (by omega)
  rw [hz1] at h
  have e : madeCells (Value.float .f32 0).cells ((n : Int).toNat * 1) = flo n fun _ => 0 := by
    rw [Int.toNat_natCast]
    unfold madeCells flo
    apply Array.ext
    · simp
    · intro i h1 h2
      simp [Value.cells, Nat.mod_one]
  rw [e] at h
  simpa using h
theorem grown_put (w : World) (gv i : Nat) (v : Value) : w.grownBy (w.setCell ⟨gv, i, none⟩ v) (some gv) :=
  ⟨rfl, rfl, rfl, by simp [World.setCell], fun k _ hne => Below.heap_setCell w ⟨gv, i, none⟩ v k (fun e => hne (by rw [e]))⟩

def covS (v old : Nat) : Nat := if gt v old = true then v else old
/-- the field of the call's own: its block, its array -/
structure FD (w : World) (hf gv N : Nat) (X Y W H : Int) (g : Nat → Nat) : Prop where
  fb : Bk w hf 55 #[.int .i64 X, .int .i64 Y, .int .i64 W, .int .i64 H, .slice (some ⟨gv, 0, none⟩) N N]
  vb : Bk w gv 24 (flo N g)
theorem FD.step {w w' : World} {hf gv N : Nat} {X Y W H : Int} {g : Nat → Nat} (h : FD w hf gv N X Y W H g) (hx : Ext w w') : FD w' hf gv N X Y W H g := ⟨h.fb.ext hx, h.vb.ext hx⟩
theorem FD.put {w : World} {hf gv N : Nat} {X Y W H : Int} {g : Nat → Nat} (h : FD w hf gv N X Y W H g) (k v : Nat) : FD (w.setCell ⟨gv, k, none⟩ (.float .f32 v)) hf gv N X Y W H (putG g k v) := by
  refine ⟨h.fb.far ?_ _, ?_⟩
  · exact h.fb.ne h.vb (by decide)
  · rw [← flo_set]
    exact h.vb.set _ _

set_option maxRecDepth 100000 in
set_option maxHeartbeats 1600000 in
theorem cover1_any (w : World) (hf gv hq N : Nat) (X Y W H : Int) (g : Nat → Nat) (hF : FD w hf gv N X Y W H g) (q : Nat) (hQ : Bk w hq 24 #[.float .f32 q]) (hne : hq ≠ gv) (k : Nat) (hk : k < N) (pt : Nat) (hm : floatBits .mul .f32 q pt = some (fmul q pt)) :
    Calls Tryd.prog 43 #[.int .i64 k, .float .f32 pt, .pointer (some ⟨hq, 0, none⟩), .pointer (some ⟨hf, 0, none⟩)] w fun e w' => e = .returned (.tuple #[]) ∧ (FD w' hf gv N X Y W H (putG g k (covS (fmul q pt) (g k))) ∧ Bk w' hq 24 #[.float .f32 q]) ∧ w.grownBy w' (some gv) := by
  have r1 := fun (w : World) => run_float_arith (P := Tryd.prog) w .mul 24 .f32 _ _ _ hm
  have c0 := hQ.cell 0
  have c4 := hF.fb.cell 4
  have cv : w.cell? ⟨gv, k, none⟩ = some (.float .f32 (g k)) := by rw [hF.vb.cell]; exact flo_get g hk
  have cf := hF.vb.frozen k
  have k0 : (0 : Int) ≤ k := by omega
  have k1 : (k : Int) < N := by omega
  clear hm
  generalize fmul q pt = v at *
  by_cases hg : gt v (g k) = true
  · have C1 : (FloatKind.f32.format.order v (g k) == some .gt) = true := hg
    have hF2 := hF.put k v
    have hQ2 : Bk (w.setCell ⟨gv, k, none⟩ (.float .f32 v)) hq 24 #[.float .f32 q] := hQ.far hne _
    have hgr := grown_put w gv k (.float .f32 v)
    have e : covS v (g k) = v := if_pos hg
    rw [e]
    clear hg e hF hQ
    go_enter Tryd.func43, Tryd.ntmps43
    go_wp2
    ((try simp only [Exit.inBlock, Exit.then]); refine bodyPost_end (results_none Tryd.results43 _ _ _) rfl ?_)
    exact ⟨rfl, ⟨hF2, hQ2⟩, hgr⟩
  · have C1 : (FloatKind.f32.format.order v (g k) == some .gt) = false := Bool.eq_false_iff.2 hg
    have e : putG g k (covS v (g k)) = g := by
      funext j
      unfold putG covS
      by_cases hj : j = k
      · rw [if_pos hj, if_neg hg, hj]
      · rw [if_neg hj]
    rw [e]
    clear hg e
    go_enter Tryd.func43, Tryd.ntmps43
    go_wp2
    ((try simp only [Exit.inBlock, Exit.then]); refine bodyPost_end (results_none Tryd.results43 _ _ _) rfl ?_)
    exact ⟨rfl, ⟨hF, hQ⟩, grown_ext (Ext.refl w) _⟩

set_option maxRecDepth 100000 in
set_option maxHeartbeats 3200000 in
theorem shade1_any (w : World) (hf gv hx N : Nat) (X Y W H : Int) (g : Nat → Nat) (hF : FD w hf gv N X Y W H g) (a : PlantR) (hX : Bk w hx 46 a.cells.toArray) (k : Nat) (hk : k < N) (pt : Nat) (hm : floatBits .mul .f32 a.size pt = some (fmul a.size pt)) (ha : floatBits .add .f32 (g k) (fmul a.size pt) = some (fadd (g k) (fmul a.size pt))) :
    Calls Tryd.prog 44 #[.int .i64 k, .float .f32 pt, .pointer (some ⟨hf, 0, none⟩), .pointer (some ⟨hx, 0, none⟩)] w fun e w' => e = .returned (.tuple #[]) ∧ (FD w' hf gv N X Y W H (putG g k (fadd (g k) (fmul a.size pt))) ∧ Bk w' hx 46 a.cells.toArray) ∧ w.grownBy w' (some gv) := by
  have r1 := fun (w : World) => run_float_arith (P := Tryd.prog) w .mul 24 .f32 _ _ _ hm
  have r2 := fun (w : World) => run_float_arith (P := Tryd.prog) w .add 24 .f32 _ _ _ ha
  have c0 : w.cell? ⟨hx, 3, none⟩ = some (.float .f32 a.size) := hX.cell 3
  have c4 := hF.fb.cell 4
  have cv : w.cell? ⟨gv, k, none⟩ = some (.float .f32 (g k)) := by rw [hF.vb.cell]; exact flo_get g hk
  have cf := hF.vb.frozen k
  have k0 : (0 : Int) ≤ k := by omega
  have k1 : (k : Int) < N := by omega
  have hne : hx ≠ gv := hX.ne hF.vb (by decide)
  clear hm ha
  generalize fmul a.size pt = v at *
  have hF2 := (hF.step ((Ext.refl w).drew)).put k (fadd (g k) v)
  have hX2 : Bk (w.drew.setCell ⟨gv, k, none⟩ (.float .f32 (fadd (g k) v))) hx 46 a.cells.toArray := (hX.drew).far hne _
  have hgr : w.grownBy (w.drew.setCell ⟨gv, k, none⟩ (.float .f32 (fadd (g k) v))) (some gv) := grown_trans' (grown_drew' (grown_ext (Ext.refl w) _)) (grown_put w.drew gv k _)
  generalize fadd (g k) v = u at *
  clear hF hX
  go_enter Tryd.func44, Tryd.ntmps44
  go_upto_region 0 with fail
  go_region
  go_wp2
  ((try simp only [Exit.inBlock, Exit.then]); refine bodyPost_end (results_none Tryd.results44 _ _ _) rfl ?_)
  exact ⟨rfl, ⟨hF2, hX2⟩, hgr⟩

def covE (X Y W H : Int) (l : List KindR) (p : List PlantR) : Int := if regE X Y W H ≠ 0 then regE X Y W H else plantsE l p
theorem checkRegionP_any (X Y W H : Int) (A : Option Addr) (n c : Nat) (l : List KindR) (B : Option Addr) (m d : Nat) (p : List PlantR) (w : World) (hn : l.length = n) (hd : Rd w A (kcells l)) (hb : n ≤ 4000000000000) (hc : n ≤ c) (hsz : ∀ x ∈ l, x.s.size ≤ 9223372036854775807) (hm : p.length = m) (hp : Rd w B (pcells p)) (hbm : m ≤ 4000000000000) :
    Calls Tryd.prog 41 #[.agg #[.int .i64 X, .int .i64 Y, .int .i64 W, .int .i64 H], .slice A n c, .slice B m d] w fun e w' => e = .returned (.int .i64 (covE X Y W H l p)) ∧ Ext w w' := by
  have HR := fun (w : World) => hidA (checkRegion_any X Y W H w)
  have HC := fun (w : World) (hd : Rd w A (kcells l)) (hp : Rd w B (pcells p)) => hidA (checkPlants_any A n c l B m d p w hn hd hb hc hsz hm hp hbm)
  by_cases h : regE X Y W H = 0
  · have e : covE X Y W H l p = plantsE l p := if_neg (by simpa using h)
    rw [e]
    rw [h] at HR
    clear e h hn hm hsz
    generalize plantsE l p = q at *
    go_enter Tryd.func41, Tryd.ntmps41
    go_wp2_with fail
    refine ((HR _).out).mono ?_
    rintro e w1 ⟨rfl, hb1⟩
    have hx : Ext w w1 := by (repeat (first | exact Ext.refl _ | assumption | refine Ext.setCell ?_ (by first | (simp; done) | (simp; omega)) _ | refine Ext.drewN ?_ _ | refine Ext.alloc ?_ _ | refine Ext.drew ?_ | refine Ext.trans ?_ (by assumption)))
    go_wp2_with fail
    refine ((HC _ (hd.ext hx) (hp.ext hx)).out).mono ?_
    rintro e w2 ⟨rfl, hb2⟩
    go_wp2_with fail
    go_ret
    exact ⟨rfl, (by repeat (first | exact Ext.refl _ | assumption | refine Ext.setCell ?_ (by first | (simp; done) | (simp; omega)) _ | refine Ext.drewN ?_ _ | refine Ext.alloc ?_ _ | refine Ext.drew ?_ | refine Ext.trans ?_ (by assumption)))⟩
  · have e : covE X Y W H l p = regE X Y W H := if_pos h
    have b0 : (regE X Y W H != 0) = true := by simpa using h
    rw [e]
    clear e h hn hm hsz
    generalize regE X Y W H = q at *
    go_enter Tryd.func41, Tryd.ntmps41
    go_wp2_with fail
    refine ((HR _).out).mono ?_
    rintro e w1 ⟨rfl, hb1⟩
    go_wp2_with fail
    go_ret
    exact ⟨rfl, (by repeat (first | exact Ext.refl _ | assumption | refine Ext.setCell ?_ (by first | (simp; done) | (simp; omega)) _ | refine Ext.drewN ?_ _ | refine Ext.alloc ?_ _ | refine Ext.drew ?_ | refine Ext.trans ?_ (by assumption)))⟩
end Go.Proofs.YtgaonoklbihkjaaDoor
