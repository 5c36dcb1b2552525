/- Contracts: plant.apart and plant.Apart: which plants stay. -/
import Derived.Test.YtgaonoklbihkjaaDoorThinB
import Derived.Test.YtgaonoklbihkjaaDoorLaidP
import Derived.Test.YtgaonoklbihkjaaDoorNearA
import Derived.Shelf.SlSortCmp.NoneTotal
import Derived.Shelf.SlSortCmp.WholeK
import Derived.Deep.AppendLies
import Derived.OwnWalk
import Derived.Lib.SliceRun
import Derived.Test.YtgaonoklbihkjaaDoorPlantsD
namespace Go.Proofs.YtgaonoklbihkjaaDoor
open Go.RowKit Go.Sort Go.Lib

/-- a slice of plants of the call's own, and what it holds -/
def OwnP (w : World) (base : Nat) (v : Value) (p : List PlantR) : Prop := w.ownsRow base 46 5 v p.length (pcells p)
theorem OwnP.nil (w : World) (base : Nat) : OwnP w base (.slice none 0 0) [] := World.ownsRow_nil w base _ 5
theorem OwnP.grown {w w' : World} {base : Nat} {v : Value} {p : List PlantR} (h : OwnP w base v p) {r : Option Nat} (hg : w.grownBy w' r) (hne : v.ownBlock = none ∨ v.ownBlock ≠ r) : OwnP w' base v p := World.ownsRow.kept h hg hne
theorem OwnP.ext {w w' : World} {base : Nat} {v : Value} {p : List PlantR} (h : OwnP w base v p) (hx : Ext w w') : OwnP w' base v p := h.grown (grown_ext hx none) (by cases h : v.ownBlock <;> simp)
theorem OwnP.form {w : World} {base : Nat} {v : Value} {p : List PlantR} (h : OwnP w base v p) : ∃ A cap, v = .slice A p.length cap := by
  rcases h.2 with ⟨h1, h2⟩ | ⟨g, cap, cur, hv, _⟩
  · exact ⟨none, 0, by rw [h1]; simp [h2]⟩
  · exact ⟨_, cap, hv⟩
theorem OwnP.rd {w : World} {base : Nat} {A : Option Addr} {n c : Nat} {p : List PlantR} (h : OwnP w base (.slice A n c) p) (hn : n = p.length) : Rd w A (pcells p) := by
  subst hn
  exact Rd.of_own h

/-- a plant whose size is a number -/
structure PlantB where
  val : PlantR
  ok : Bd 20 val.size
instance : Inhabited PlantB := ⟨⟨PZ, by unfold Bd PZ; decide⟩⟩
def encP (x : PlantB) : List Value := x.val.cells
def pick (p : List PlantR) (hp : ∀ x ∈ p, Bd 20 x.size) : List PlantB := p.attach.map fun x => ⟨x.1, hp x.1 x.2⟩
theorem pick_val (p : List PlantR) (hp : ∀ x ∈ p, Bd 20 x.size) : (pick p hp).map (·.val) = p := by
  unfold pick
  rw [List.map_map]
  exact List.attach_map_subtype_val p
theorem flat_cells (q : List PlantB) : (flatK encP 5 q.toArray).toList = pcells (q.map (·.val)) := by
  have hlen : (pcells (q.map (·.val))).length = q.length * 5 := by rw [pcells_length, List.length_map]
  apply List.ext_getElem?
  intro t
  by_cases ht : t < q.length * 5
  · have e1 : t = t / 5 * 5 + t % 5 := by omega
    have hk : t / 5 < q.length := by omega
    have hi : t % 5 < 5 := by omega
    have h2 : (pcells (q.map (·.val)))[t]? = ((q.map (·.val))[t / 5]'(by simpa using hk)).cells[t % 5]? := by
      have := pcells_get (l := q.map (·.val)) (k := t / 5) (i := t % 5) (by simpa using hk) hi
      rwa [← e1] at this
    have hs : t < (flatK encP 5 q.toArray).size := by rw [size_flatK]; simpa using ht
    have h3 := get_flatK encP 5 q.toArray t (by simpa using ht)
    rw [h2, Array.getElem?_toList, Array.getElem?_eq_getElem hs]
    rw [getElem!_pos (flatK encP 5 q.toArray) t hs] at h3
    have h4 : (q.toArray[t / 5]! : PlantB) = q[t / 5] := by
      rw [getElem!_pos q.toArray (t / 5) (by simpa using hk)]
      simp
    rw [h3, h4, List.getElem_map]
    have h5 : t % 5 < (encP q[t / 5]).length := hi
    rw [getElem!_pos (encP q[t / 5]) (t % 5) h5]
    show _ = (encP q[t / 5])[t % 5]?
    rw [List.getElem?_eq_getElem h5]
  · have e1 : (flatK encP 5 q.toArray).toList.length = q.length * 5 := by rw [Array.length_toList, size_flatK]; simp
    rw [List.getElem?_eq_none (by rw [e1]; omega), List.getElem?_eq_none (by rw [hlen]; omega)]

/-- DOWN: a slice of the call's own that is not nil holds its plants. -/
theorem OwnP.holds {w : World} {base : Nat} {v : Value} {q : List PlantB} (h : OwnP w base v (q.map (·.val))) (hv : v ≠ .slice none 0 0) :
    ∃ g cap, v = .slice (some ⟨g, 0, none⟩) q.length cap ∧ base ≤ g ∧ g < w.heap.size ∧ HoldsK encP 5 w g 0 q.toArray := by
  unfold OwnP at h
  rw [List.length_map, ← flat_cells] at h
  rcases h.2 with ⟨e0, _⟩ | ⟨g, cap, cur, rfl, hb, hg, hn, hm, hs, ht⟩
  · exact absurd e0 hv
  · have hlt : g < w.heap.size := by
      rcases Nat.lt_or_ge g w.heap.size with h' | h'
      · exact h'
      · rw [Array.getElem?_eq_none h'] at hg; cases hg
    refine ⟨g, cap, rfl, hb, hlt, fun j hj => ?_⟩
    have hj' : j < q.length * 5 := by rw [size_flatK] at hj; simpa using hj
    refine ⟨?_, by simp [World.frozen?, hg]⟩
    have e1 : (cur.toList.take (q.length * 5))[j]? = (flatK encP 5 q.toArray).toList[j]? := by rw [ht]
    rw [List.getElem?_take, if_pos hj', Array.getElem?_toList, Array.getElem?_toList, Array.getElem?_eq_getElem hj] at e1
    simp only [World.cell?, hg, Nat.zero_add]
    simp only [Option.isSome_none, Bool.false_eq_true, if_false]
    rw [e1, getElem!_pos (flatK encP 5 q.toArray) j hj]
    rfl
/-- UP: behind the sort the slice is the call's own still. -/
theorem OwnP.sorted {w : World} {base : Nat} {g n cap q : Nat} {os : Array Obj} {p r : List PlantB} (h : OwnP w base (.slice (some ⟨g, 0, none⟩) n cap) (p.map (·.val))) (hr : r.length = p.length) :
    OwnP (sortWorldK encP 5 w g 0 q r.toArray os) base (.slice (some ⟨g, 0, none⟩) n cap) (r.map (·.val)) ∧ w.grownBy (sortWorldK encP 5 w g 0 q r.toArray os) (some g) := by
  have hsz : (flatK encP 5 r.toArray).size = r.length * 5 := by rw [size_flatK]; simp
  have hgb : w.grownBy (putRow id (Sort.ahead w q) g 0 (flatK encP 5 r.toArray)) (some g) := by
    refine ⟨rfl, rfl, rfl, by simp [Sort.ahead], fun k _ hk => ?_⟩
    have hne : ¬ g = k := fun e => hk (by rw [e])
    simp [putRow, mapBlock, Sort.ahead, Array.getElem?_modify, hne]
  have hgw : (putRow id (Sort.ahead w q) g 0 (flatK encP 5 r.toArray)).grownBy (sortWorldK encP 5 w g 0 q r.toArray os) none := by
    unfold sortWorldK putRowK
    refine ⟨rfl, rfl, rfl, by simp [Sort.grow], fun k hk _ => ?_⟩
    simp only [Sort.grow]
    rw [Array.getElem?_append_left hk]
  have h1 : (putRow id (Sort.ahead w q) g 0 (flatK encP 5 r.toArray)).ownsRow base 46 5 (.slice (some ⟨g, 0, none⟩) n cap) (r.map (·.val)).length (pcells (r.map (·.val))) := by
    unfold OwnP at h
    rw [List.length_map] at *
    rcases h.2 with ⟨e0, _⟩ | ⟨g', cap', cur, e0, hb, hg, hn, hm, hs, ht⟩
    · cases e0
    · injection e0 with e1 e2 e3
      injection e1 with e1
      injection e1 with e1
      subst e1; subst e3
      refine ⟨by rw [pcells_length, List.length_map], .inr ⟨g, cap, putCells id 0 (flatK encP 5 r.toArray) cur, by rw [e2, hr], hb, ?_, by omega, hm, by simpa [putCells] using hs, ?_⟩⟩
      · simp [putRow, mapBlock, Sort.ahead, Array.getElem?_modify, hg, onCells]
      · rw [← flat_cells]
        apply List.ext_getElem?
        intro j
        rw [List.getElem?_take, Array.getElem?_toList, Array.getElem?_toList]
        by_cases hj : j < r.length * 5
        · have hjc : j < cur.size := by rw [hs]; omega
          have hjf : j < (flatK encP 5 r.toArray).size := by rw [hsz]; exact hj
          rw [if_pos hj]
          simp only [putCells, Array.getElem?_mapIdx, Array.getElem?_eq_getElem hjc, Option.map_some]
          rw [if_pos (by rw [hsz]; omega), Array.getElem?_eq_getElem hjf]
          simp only [Nat.sub_zero]
          rw [getElem!_pos (flatK encP 5 r.toArray) j hjf]
          rfl
        · rw [if_neg hj, Array.getElem?_eq_none (by rw [hsz]; omega)]
  refine ⟨World.ownsRow.kept h1 hgw (.inr (by simp [Value.ownBlock])), ?_⟩
  refine ⟨hgw.os.trans hgb.os, hgw.tape.trans hgb.tape, hgw.output.trans hgb.output, Nat.le_trans hgb.size hgw.size, fun k hk hne => ?_⟩
  exact (hgw.block k (Nat.lt_of_lt_of_le hk hgb.size) (by simp)).trans (hgb.block k hk hne)

/-- slices.SortFunc over plants: a permutation, in order. -/
theorem sort_plants (fn : Nat) (cf : PlantR → PlantR → Int) (lt : PlantR → PlantR → Bool)
    (eg : ∀ args w, (callFunc fn args).run Tryd.prog w = .ok (.enter fn args) w)
    (hcmp : ∀ (a b : PlantR) (w : World), Calls Tryd.prog fn #[a.v, b.v] w fun e w' => e = .returned (.int .i64 (cf a b)) ∧ Gr w w')
    (hlt : ∀ a b : PlantR, Bd 20 a.size → Bd 20 b.size → decide (cf a b < 0) = lt a b)
    (h1 : ∀ a, lt a a = false) (h2 : ∀ a b c, lt a b = true → lt b c = true → lt a c = true) (h3 : ∀ a b c, lt a b = false → lt b c = false → lt a c = false)
    (base : Nat) (v : Value) (p : List PlantR) (w : World) (hown : OwnP w base v p) (hp : ∀ x ∈ p, Bd 20 x.size) (hsz : p.length ≤ 4000000) :
    Calls Tryd.prog 69 #[v, .func (.func fn) #[] #[]] w fun e w' => e = .returned (.tuple #[]) ∧ ∃ q, OwnP w' base v q ∧ q.Perm p ∧ (q.Pairwise fun a b => lt b a = false) ∧ w.grownBy w' v.ownBlock := by
  by_cases hv : v = .slice none 0 0
  · subst hv
    have hp0 : p = [] := by
      rcases hown.2 with ⟨_, h⟩ | ⟨g, cap, cur, h, _⟩
      · exact List.eq_nil_of_length_eq_zero h
      · cases h
    subst hp0
    refine (AnyF.slices_SortFunc_none Tryd.sortP none 0 (.func (.func fn) #[] #[]) w).mono ?_
    rintro e w' ⟨he, hw⟩
    subst hw
    exact ⟨he, [], hown, List.Perm.refl _, List.Pairwise.nil, World.grownBy.refl _ _⟩
  · have hpv := pick_val p hp
    have hown2 := hown
    rw [← hpv] at hown2
    obtain ⟨g, cap, rfl, hb, hlt2, hH⟩ := hown2.holds hv
    have hO : SWO (ltOf fun x y : PlantB => cf x.val y.val) := by
      have e : ∀ x y : PlantB, ltOf (fun x y : PlantB => cf x.val y.val) x y = lt x.val y.val := fun x y => hlt x.val y.val x.ok y.ok
      exact ⟨fun x => by rw [e]; exact h1 _, fun x y z => by rw [e, e, e]; exact h2 _ _ _, fun x y z => by rw [e, e, e]; exact h3 _ _ _⟩
    have hL : CmpLays Tryd.prog fn #[] encP 5 (fun x y : PlantB => cf x.val y.val) g 0 (pick p hp).toArray.size w := fun m os dk _ x y => by
      refine (hcmp x.val y.val (sortWorldK encP 5 w g 0 m dk os)).mono ?_
      rintro e w' ⟨he, hg⟩
      exact ⟨he, hg.eq⟩
    have hcon := AnyQ.slices_SortFunc Tryd.sortP 5 Tryd.isAgg46 Tryd.sizeOf46 encP (fun _ => rfl) (fun x u hu => cells_one x.val u hu) (fun x y : PlantB => cf x.val y.val) hO fn #[] g 0 cap (pick p hp).toArray w eg hL hH hlt2 (by
      have hl : (pick p hp).length = p.length := by rw [← List.length_map (f := fun x : PlantB => x.val), hpv]
      rw [List.size_toArray, hl]
      omega)
    rw [List.size_toArray] at hcon
    refine hcon.mono ?_
    rintro e w' ⟨he, d', n, os, hperm, hsort, rfl⟩
    have hd' : d'.size = (pick p hp).length := by rw [hperm.1, List.size_toArray]
    have hd2 : d'.toList.toArray = d' := by simp
    obtain ⟨k1, k2⟩ := hown2.sorted (q := n) (os := os) (r := d'.toList) (by rw [Array.length_toList, hd'])
    rw [hd2] at k1 k2
    refine ⟨he, d'.toList.map (·.val), k1, ?_, ?_, k2⟩
    · have h := hperm.2.2
      rw [Array.extract_eq_self_of_le (by rw [hd']; exact Nat.le_refl _), Array.extract_eq_self_of_le (by rw [List.size_toArray]; exact Nat.le_refl _)] at h
      have h' := h.map (fun x : PlantB => x.val)
      rw [List.toList_toArray, hpv] at h'
      exact h'
    · rw [List.pairwise_map, List.pairwise_iff_getElem]
      intro i j hi hj hij
      have hi' : i < d'.size := by simpa using hi
      have hj' : j < d'.size := by simpa using hj
      have h := hsort i j (Nat.zero_le _) hij (by rw [← hd']; exact hj')
      rw [getElem!_pos d' j hj', getElem!_pos d' i hi'] at h
      have e := hlt (d'[j]).val (d'[i]).val (d'[j]).ok (d'[i]).ok
      rw [Array.getElem_toList, Array.getElem_toList, ← e]
      exact h
end Go.Proofs.YtgaonoklbihkjaaDoor
namespace Go.Proofs.YtgaonoklbihkjaaDoor
open Go.RowKit
attribute [local go_sem ↓] Go.wp_at_zero Go.wp_at_succ
attribute [local go_sem] run_store_float

set_option maxRecDepth 100000 in
set_option maxHeartbeats 3200000 in
theorem clone_any (B : Option Addr) (m d : Nat) (p : List PlantR) (w : World) (hm : p.length = m) (hp : Rd w B (pcells p)) (hbm : m ≤ 4000) :
    Calls Tryd.prog 68 #[.slice B m d] w fun e w' => ∃ v, e = .returned v ∧ OwnP w' w.heap.size v p ∧ Ext w w' := by
  have R := fun (a : Option Addr) (n c : Nat) (w : World) => Go.Lib.run_eql_slice_nil (P := Tryd.prog) w 23 _ a n c 0 0 Tryd.underlying23
  cases B with
  | none =>
    have hp0 : p = [] := by
      cases p with
      | nil => rfl
      | cons x r =>
        obtain ⟨_, h, _⟩ := hp (by simp [pcells, PlantR.cells])
        cases h
    subst hp0
    subst hm
    clear hp
    go_enter Tryd.func68, Tryd.ntmps68
    go_wp2_with fail
    go_ret
    exact ⟨_, rfl, OwnP.nil _ _, (by repeat (first | exact Ext.refl _ | assumption | refine Ext.setCell ?_ (by first | (simp; done) | (simp; omega)) _ | refine Ext.drewN ?_ _ | refine Ext.alloc ?_ _ | refine Ext.drew ?_ | refine Ext.trans ?_ (by assumption)))⟩
  | some ad =>
    obtain ⟨i0, hi0, hz0, hz1, hz2⟩ := info_parts infoPlant
    have hpl := hidA (show (pcells p).length = m * 5 by rw [pcells_length, hm])
    have hN := hidA (show ∀ j u, (pcells p)[j]? = some u → (w.alloc (.cells #[] 46)).cell? (ad.add j) = some u from (hp.ext ((Ext.refl w).alloc _)).reads)
    have hO := hidA (show (w.alloc (.cells #[] 46)).ownsRow w.heap.size 46 5 (.slice (some ⟨w.heap.size, 0, none⟩) 0 0) 0 [] from World.ownsRow_made w #[] 0 (Nat.le_refl _) (Nat.zero_le _) (by simp))
    have Hm := hidA hm
    clear hm hp
    go_enter Tryd.func68, Tryd.ntmps68
    go_wp2_with (at_builtin; (refine wpList_append_own _ (by rfl) (.tmp 5) (.tmp 6) 23 (by rfl) w.heap.size 46 i0 _ 5 40 Tryd.underlying23 hi0 hz0 hz1 hz2 (by rfl) (by decide) (.slice (some ⟨w.heap.size, 0, none⟩) 0 0) 0 [] (by rfl) hO.out ad m d (pcells p) (by rfl) hpl.out hN.out (pcells_one p) (by unfold maxLen; omega) (by omega) (by simp) ?_; intro v4 w4 hown4 hgrow4 _))
    go_ret
    refine ⟨v4, rfl, ?_, ?_⟩
    · unfold OwnP
      rw [Hm.out]
      simpa using hown4
    · exact Ext.grown ((Ext.refl w).alloc _) hgrow4 (fun q he => (hO.out.lt q he).1)

set_option maxRecDepth 100000 in
set_option maxHeartbeats 3200000 in
theorem index_any (A : Option Addr) (n c : Nat) (l : List KindR) (x : PlantR) (B : Option Addr) (m d : Nat) (q : List PlantR) (hq hx : Nat) (w : World) (hn : l.length = n) (hd : Rd w A (kcells l)) (hQ : Bk w hq 22 #[.slice A n c]) (hX : Bk w hx 46 #[.int .i64 x.kind, .int .i64 x.x, .int .i64 x.y, .float .f32 x.size, .int .i64 x.age]) (hxe : plantE l x = 0) (hl : ∀ x ∈ l, x.err = 0)
    (hm : q.length = m) (hp : Rd w B (pcells q)) (hqe : ∀ a ∈ q, plantE l a = 0) (hbm : m ≤ 4000) :
    Calls Tryd.prog 87 #[.slice B m d, .func (.func 72) #[] #[.pointer (some ⟨hq, 0, none⟩), .pointer (some ⟨hx, 0, none⟩)]] w fun e w' => (∃ r : Int, e = .returned (.int .i64 r) ∧ decide (0 ≤ r) = q.any fun o => cloB l x o) ∧ Ext w w' := by
  have HC := fun (b : PlantR) (w' : World) (hb : plantE l b = 0) (he : Ext w w') => hidA (apart1_any A n c l x b hq hx w' hn (hd.ext he) (hQ.ext he) (hX.ext he) hxe hb hl)
  have Hm := hidA hm
  have HE := hidA hqe
  clear hm hqe hn hd hQ hX hxe hl
  go_enter Tryd.func87, Tryd.ntmps87
  go_wp2_with fail
  go_loopw [8] (fun i wr => ∃ k : Nat, k ≤ m ∧ i = .int .i64 k ∧ Hid ((q.take k).any (fun o => cloB l x o) = false) ∧ Ext w wr) (fun i _ => m - (intOf i).toNat)
  case atStart => exact ⟨0, Nat.zero_le _, rfl, by simp [Hid], Ext.refl _⟩
  case round =>
    obtain ⟨k, hk, rfl, hf, he⟩ := hrel
    by_cases hlt : k < m
    · have hkl : k < q.length := by have := Hm.out; omega
      obtain ⟨ad, rfl, hbk, _⟩ := hp.at (k := k) (by rw [pcells_length]; omega)
      obtain ⟨d0, d1, d2, d3, d4⟩ := (hp.ext he).plant hkl
      have HCk := fun (w' : World) (he : Ext w w') => HC q[k] w' (HE.out _ (List.getElem_mem hkl)) he
      have hst := hidA (show (q.take (k + 1)).any (fun o => cloB l x o) = cloB l x q[k] from by
        rw [← List.take_append_getElem hkl, List.any_append, hf.out]
        simp)
      have hany := hidA (show cloB l x q[k] = true → (q.any fun o => cloB l x o) = true from fun h => List.any_eq_true.2 ⟨q[k], List.getElem_mem hkl, h⟩)
      generalize cloB l x q[k] = b at *
      simp only [PlantR.v] at HCk
      have k0 : (0 : Int) ≤ k := by omega
      have k1 : (k : Int) < m := by omega
      generalize q[k].kind = kd at *
      generalize q[k].x = px at *
      generalize q[k].y = py at *
      generalize q[k].size = sz at *
      generalize q[k].age = ag at *
      clear HC HE hf
      cases b
      · go_wp2_with fail
        refine ((HCk _ (by repeat (first | exact Ext.refl _ | assumption | refine Ext.setCell ?_ (by first | (simp; done) | (simp; omega)) _ | refine Ext.drewN ?_ _ | refine Ext.alloc ?_ _ | refine Ext.drew ?_ | refine Ext.trans ?_ (by assumption)))).out).mono ?_
        rintro e w1 ⟨rfl, h1⟩
        go_wp2_with fail
        go_roundw
        case rel => exact ⟨k + 1, by omega, congrArg (Value.int .i64) (by omega), hst, (by repeat (first | exact Ext.refl _ | assumption | refine Ext.setCell ?_ (by first | (simp; done) | (simp; omega)) _ | refine Ext.drewN ?_ _ | refine Ext.alloc ?_ _ | refine Ext.drew ?_ | refine Ext.trans ?_ (by assumption)))⟩
        case measure => simp [intOf]; omega
      · go_wp2_with fail
        refine ((HCk _ (by repeat (first | exact Ext.refl _ | assumption | refine Ext.setCell ?_ (by first | (simp; done) | (simp; omega)) _ | refine Ext.drewN ?_ _ | refine Ext.alloc ?_ _ | refine Ext.drew ?_ | refine Ext.trans ?_ (by assumption)))).out).mono ?_
        rintro e w1 ⟨rfl, h1⟩
        go_wp2_with fail
        go_ret
        exact ⟨⟨k, rfl, by rw [hany.out (by first | rfl | trivial)]; simp⟩, (by repeat (first | exact Ext.refl _ | assumption | refine Ext.setCell ?_ (by first | (simp; done) | (simp; omega)) _ | refine Ext.drewN ?_ _ | refine Ext.alloc ?_ _ | refine Ext.drew ?_ | refine Ext.trans ?_ (by assumption)))⟩
    · have hkm : k = m := by omega
      subst hkm
      have hno := hidA (show (q.any fun o => cloB l x o) = false from by
        have h := hf.out
        rwa [List.take_of_length_le (by have := Hm.out; omega)] at h)
      clear HC HE hf hp
      go_wp2_with fail
      go_ret
      exact ⟨⟨-1, rfl, by rw [hno.out]; simp⟩, (by repeat (first | exact Ext.refl _ | assumption | refine Ext.setCell ?_ (by first | (simp; done) | (simp; omega)) _ | refine Ext.drewN ?_ _ | refine Ext.alloc ?_ _ | refine Ext.drew ?_ | refine Ext.trans ?_ (by assumption)))⟩

set_option maxRecDepth 100000 in
set_option maxHeartbeats 3200000 in
theorem contains_any (A : Option Addr) (n c : Nat) (l : List KindR) (x : PlantR) (B : Option Addr) (m d : Nat) (q : List PlantR) (hq hx : Nat) (w : World) (hn : l.length = n) (hd : Rd w A (kcells l)) (hQ : Bk w hq 22 #[.slice A n c]) (hX : Bk w hx 46 #[.int .i64 x.kind, .int .i64 x.x, .int .i64 x.y, .float .f32 x.size, .int .i64 x.age]) (hxe : plantE l x = 0) (hl : ∀ x ∈ l, x.err = 0)
    (hm : q.length = m) (hp : Rd w B (pcells q)) (hqe : ∀ a ∈ q, plantE l a = 0) (hbm : m ≤ 4000) :
    Calls Tryd.prog 71 #[.slice B m d, .func (.func 72) #[] #[.pointer (some ⟨hq, 0, none⟩), .pointer (some ⟨hx, 0, none⟩)]] w fun e w' => e = .returned (.bool (q.any fun o => cloB l x o)) ∧ Ext w w' := by
  have HI := hidA (index_any A n c l x B m d q hq hx w hn hd hQ hX hxe hl hm hp hqe hbm)
  clear hn hd hQ hX hxe hl hm hp hqe
  generalize (q.any fun o => cloB l x o) = r at *
  go_enter Tryd.func71, Tryd.ntmps71
  go_wp2_with fail
  refine (HI.out).mono ?_
  rintro e w1 ⟨⟨i, rfl, hi⟩, h1⟩
  have Hi := hidA hi
  clear hi HI
  go_wp2_with fail
  go_ret
  exact ⟨ret_b Hi.out, h1⟩
end Go.Proofs.YtgaonoklbihkjaaDoor
namespace Go.Proofs.YtgaonoklbihkjaaDoor
open Go.RowKit
attribute [local go_sem ↓] Go.wp_at_zero Go.wp_at_succ
attribute [local go_sem] run_store_float

theorem OwnP.base {w : World} {b b' : Nat} {v : Value} {p : List PlantR} (h : OwnP w b v p) (hb : b' ≤ b) : OwnP w b' v p := by
  refine ⟨h.1, ?_⟩
  rcases h.2 with h2 | ⟨g, cap, cur, h3, h4, h5⟩
  · exact .inl h2
  · exact .inr ⟨g, cap, cur, h3, Nat.le_trans hb h4, h5⟩
theorem foldl_len (l : List KindR) : ∀ (o acc : List PlantR), (o.foldl (addS l) acc).length ≤ acc.length + o.length
  | [], acc => by simp
  | x :: r, acc => by
    rw [List.foldl_cons]
    have h := foldl_len l r (addS l acc x)
    have h2 : (addS l acc x).length ≤ acc.length + 1 := by
      unfold addS
      split <;> simp
    rw [List.length_cons]
    omega
theorem stayL_len (l : List KindR) (o : List PlantR) : (stayL l o).length ≤ o.length := by
  have h := foldl_len l o []
  simpa [stayL] using h
theorem enters_stand : ∀ args w, (callFunc 70 args).run Tryd.prog w = .ok (.enter 70 args) w := enters_of Tryd.func70 (by kernel_rfl) rfl
theorem enters_place : ∀ args w, (callFunc 73 args).run Tryd.prog w = .ok (.enter 73 args) w := enters_of Tryd.func73 (by kernel_rfl) rfl
theorem sort_stand (base : Nat) (v : Value) (p : List PlantR) (w : World) (hown : OwnP w base v p) (hp : ∀ x ∈ p, Bd 20 x.size) (hsz : p.length ≤ 4000) :
    Calls Tryd.prog 69 #[v, .func (.func 70) #[] #[]] w fun e w' => e = .returned (.tuple #[]) ∧ ∃ q, OwnP w' base v q ∧ Stood p q ∧ w.grownBy w' v.ownBlock :=
  (sort_plants 70 standC ltS enters_stand standing_gr (fun _ _ ha hb => ltS_stand ha hb) ltS_irrefl (fun _ _ _ => ltS_trans) (fun _ _ _ => ltS_ntrans) base v p w hown hp (by omega)).mono fun _ _ ⟨he, q, h1, h2, h3, h4⟩ => ⟨he, q, h1, ⟨h2, h3⟩, h4⟩
theorem sort_place (base : Nat) (v : Value) (p : List PlantR) (w : World) (hown : OwnP w base v p) (hp : ∀ x ∈ p, Bd 20 x.size) (hsz : p.length ≤ 4000) :
    Calls Tryd.prog 69 #[v, .func (.func 73) #[] #[]] w fun e w' => e = .returned (.tuple #[]) ∧ ∃ q, OwnP w' base v q ∧ q.Perm p ∧ (q.Pairwise fun a b => ltP b a = false) ∧ w.grownBy w' v.ownBlock :=
  sort_plants 73 placeC ltP enters_place place_gr (fun _ _ _ _ => rfl) ltP_irrefl (fun _ _ _ => ltP_trans) (fun _ _ _ => ltP_ntrans) base v p w hown hp (by omega)

set_option maxRecDepth 100000 in
set_option maxHeartbeats 6400000 in
theorem apart_any (A : Option Addr) (n c : Nat) (l : List KindR) (B : Option Addr) (m d : Nat) (p o : List PlantR) (w : World) (hn : l.length = n) (hd : Rd w A (kcells l)) (hl : ∀ x ∈ l, x.err = 0)
    (hm : p.length = m) (hp : Rd w B (pcells p)) (hpe : ∀ a ∈ p, plantE l a = 0) (hbm : m ≤ 4000) (hr : Rises p) (hS : Stood p o) :
    Calls Tryd.prog 55 #[.slice A n c, .slice B m d] w fun e w' => ∃ v, e = .returned v ∧ OwnP w' w.heap.size v (restP l p o) ∧ Ext w w' := by
  have hsz : ∀ a ∈ p, Bd 20 a.size := fun a ha => (plant_good (hpe a ha) hl).choose_spec.choose_spec.2.2.2.2.2
  obtain ⟨w1, hw1⟩ : ∃ w1, w1 = w.alloc (.cells #[.slice A n c] 22) := ⟨_, rfl⟩
  have hQ1 : Bk w1 w.heap.size 22 #[.slice A n c] := by rw [hw1]; exact Bk.new' rfl
  have hx1 : Ext w w1 := by rw [hw1]; exact (Ext.refl w).alloc _
  have HCl := hidA (clone_any B m d p w1 hm (hp.ext hx1) hbm)
  have HE := hidA hpe
  have HL := hidA hl
  have HZ := hidA hsz
  have Hn := hidA hn
  have Hm := hidA hm
  have HR := hidA hr
  have HS := hidA hS
  clear hpe hl hsz hn hm hr hS hp
  go_enter Tryd.func55, Tryd.ntmps55
  go_upto_region 1 with fail
  rw [← hw1]
  clear hw1
  go_wp2_with fail
  refine (HCl.out).mono ?_
  rintro e w2 ⟨v5, rfl, hO2, hb2⟩
  have hx2 := hx1.trans hb2
  have hQ2 := hQ1.ext hb2
  clear HCl
  have HSo := hidA (sort_stand _ v5 p w2 hO2 HZ.out (by have := Hm.out; omega))
  go_wp2_with fail
  refine (HSo.out).mono ?_
  rintro e w3 ⟨rfl, q, hO3, hst, hg3⟩
  have hqo : q = o := hst.eq HR.out HS.out
  subst hqo
  have hx3 : Ext w w3 := Ext.grown hx2 hg3 (fun k he => by have := (hO2.lt k he).1; have := hx1.size; omega)
  have hQ3 : Bk w3 w.heap.size 22 #[.slice A n c] := hQ2.grown hg3 (fun e => by
    have h1 := (hO2.lt _ e.symm).1
    have h2 := hQ1.lt
    omega)
  have hqm : q.length = m := by rw [HS.out.length, Hm.out]
  have hqe := hidA (show ∀ a ∈ q, plantE l a = 0 from fun a ha => HE.out a (HS.out.perm.mem_iff.1 ha))
  clear HSo hO2 hQ2 hb2 hg3 hst hx2 hQ1
  obtain ⟨A5, c5, rfl⟩ := hO3.form
  rw [hqm] at hO3 ⊢
  have hR3 := hO3.rd hqm.symm
  have Hqm := hidA hqm
  clear hqm
  obtain ⟨i0, hi0, hz0, hz1, hz2⟩ := info_parts infoPlant
  have hN0 : OwnP w3 w3.heap.size (.slice none 0 0) (stayL l (q.take 0)) := OwnP.nil _ _
  go_wp2_with fail
  go_loopw [6, 16] (fun s6 i wr => ∃ k : Nat, k ≤ m ∧ i = .int .i64 k ∧ OwnP wr w3.heap.size s6 (stayL l (q.take k)) ∧ Ext w3 wr) (fun _ i _ => m - (intOf i).toNat)
  case atStart => exact ⟨0, Nat.zero_le _, rfl, hN0, Ext.refl _⟩
  case round =>
    clear hN0
    obtain ⟨k, hk, rfl, hO, hx⟩ := hrel
    have hsub : ∀ a ∈ stayL l (q.take k), a ∈ q := fun a ha => List.mem_of_mem_take (stayL_sub l ha)
    have hlen : (stayL l (q.take k)).length ≤ k := by
      have h := stayL_len l (q.take k)
      rw [List.length_take] at h
      omega
    by_cases hlt : k < m
    · have hkl : k < q.length := by have := Hqm.out; omega
      obtain ⟨ad, rfl, hbk, _⟩ := hR3.at (k := k) (by rw [pcells_length]; omega)
      obtain ⟨d0, d1, d2, d3, d4⟩ := (hR3.ext hx).plant hkl
      have hxe := hqe.out _ (List.getElem_mem hkl)
      have hse : ∀ a ∈ stayL l (q.take k), plantE l a = 0 := fun a ha => hqe.out a (hsub a ha)
      have Hst := hidA (stayL_take l q hkl)
      have k0 : (0 : Int) ≤ k := by omega
      have k1 : (k : Int) < m := by omega
      generalize q[k] = x at *
      generalize hS0 : stayL l (q.take k) = S at *
      have hS0' := hidA hS0
      clear hS0
      obtain ⟨A6, c6, rfl⟩ := hO.form
      obtain ⟨w4, hw4⟩ : ∃ w4, w4 = wr.alloc (.cells #[.int .i64 x.kind, .int .i64 x.x, .int .i64 x.y, .float .f32 x.size, .int .i64 x.age] 46) := ⟨_, rfl⟩
      have hX4 : Bk w4 wr.heap.size 46 #[.int .i64 x.kind, .int .i64 x.x, .int .i64 x.y, .float .f32 x.size, .int .i64 x.age] := by rw [hw4]; exact Bk.new' rfl
      have hx4 : Ext wr w4 := by rw [hw4]; exact (Ext.refl wr).alloc _
      have hO4 := hO.ext hx4
      have HCo := hidA (contains_any A n c l x A6 S.length c6 S w.heap.size wr.heap.size w4 Hn.out (hd.ext (hx3.trans (hx.trans hx4))) (hQ3.ext (hx.trans hx4)) hX4 hxe HL.out rfl (hO4.rd rfl) hse (by omega))
      generalize hbe : (S.any fun o => cloB l x o) = b at *
      clear hse hsub
      generalize hSl : S.length = sl at *
      go_upto_region 7 with fail
      rw [← hw4]
      clear hw4
      go_wp2_with fail
      refine (HCo.out).mono ?_
      rintro e w5 ⟨rfl, hb5⟩
      have hx5 := hx.trans (hx4.trans hb5)
      have hO5 := hO4.ext hb5
      have hX5 := hX4.ext hb5
      clear HCo hO hO4 hX4 d0 d1 d2 d3 d4
      cases b
      · have hst2 := hidA (show stayL l (q.take (k + 1)) = S ++ [x] from by
          rw [Hst.out, addS, if_neg (by rw [hbe]; decide)])
        clear hbe Hst
        have e0 := hX5.cell 0
        have e1 := hX5.cell 1
        have e2 := hX5.cell 2
        have e3 := hX5.cell 3
        have e4 := hX5.cell 4
        have hA := hidA (show (w5.alloc (.cells #[.int .i64 x.kind, .int .i64 x.x, .int .i64 x.y, .float .f32 x.size, .int .i64 x.age] 46)).ownsRow w3.heap.size 46 5 (.slice A6 sl c6) sl (pcells S) from by
          have h := hO5.ext ((Ext.refl w5).alloc (.cells #[.int .i64 x.kind, .int .i64 x.x, .int .i64 x.y, .float .f32 x.size, .int .i64 x.age] 46))
          unfold OwnP at h
          rw [hSl] at h
          exact h)
        have hN := hidA (show ∀ j u, x.cells[j]? = some u → (w5.alloc (.cells #[.int .i64 x.kind, .int .i64 x.x, .int .i64 x.y, .float .f32 x.size, .int .i64 x.age] 46)).cell? ((⟨w5.heap.size, 0, none⟩ : Addr).add j) = some u from World.news_of_block (cs := #[.int .i64 x.kind, .int .i64 x.x, .int .i64 x.y, .float .f32 x.size, .int .i64 x.age]) (t := 46) (fr := (0, 0)) (Bk.new' rfl))
        have hs5 := hidA (show w3.heap.size ≤ (w5.alloc (.cells #[.int .i64 x.kind, .int .i64 x.x, .int .i64 x.y, .float .f32 x.size, .int .i64 x.age] 46)).heap.size from by have := hx5.size; simp; omega)
        go_wp2_with (at_builtin; (refine wpList_append_own _ (by rfl) (.tmp 25) (.tmp 27) 23 (by rfl) w3.heap.size 46 i0 _ 5 40 Tryd.underlying23 hi0 hz0 hz1 hz2 (by rfl) (by decide) (.slice A6 sl c6) sl (pcells S) (by rfl) hA.out ⟨w5.heap.size, 0, none⟩ 1 1 x.cells (by rfl) (by rfl) hN.out (cells_one x) (by unfold maxLen; omega) (by omega) hs5.out ?_; intro v6 w6 hown6 hgrow6 _))
        have hx6 : Ext w3 w6 := Ext.grown (hx5.alloc _) hgrow6 (fun q he => (hA.out.lt q he).1)
        have hO6 : OwnP w6 w3.heap.size v6 (stayL l (q.take (k + 1))) := by
          rw [hst2.out]
          unfold OwnP
          rw [pcells_snoc, List.length_append, hSl]
          exact hown6
        clear hA hN hs5 hown6 hgrow6 e0 e1 e2 e3 e4
        go_wp2_with fail
        go_roundw
        case rel => exact ⟨k + 1, by omega, congrArg (Value.int .i64) (by omega), hO6, hx6⟩
        case measure => simp [intOf]; omega
      · have hst2 : stayL l (q.take (k + 1)) = S := by
          rw [Hst.out, addS, if_pos hbe]
        rw [← hst2] at hO5
        clear hbe Hst
        go_wp2_with fail
        go_roundw
        case rel => exact ⟨k + 1, by omega, congrArg (Value.int .i64) (by omega), hO5, hx5⟩
        case measure => simp [intOf]; omega
    · have hkm : k = m := by omega
      subst hkm
      rw [List.take_of_length_le (by have := Hqm.out; omega)] at hO hsub hlen
      have HSo := hidA (sort_place _ u6 _ wr hO (fun a ha => HZ.out a (HS.out.perm.mem_iff.1 (hsub a ha))) (by omega))
      go_wp2_with fail
      refine (HSo.out).mono ?_
      rintro e w7 ⟨rfl, r, hO7, hpm, hso, hg7⟩
      have hre := rest_eq HR.out HS.out hpm hso
      subst hre
      go_wp2_with fail
      go_ret
      refine ⟨_, rfl, ?_, hx3.trans (Ext.grown hx hg7 (fun k he => (hO.lt k he).1))⟩
      exact OwnP.base hO7 hx3.size
end Go.Proofs.YtgaonoklbihkjaaDoor
