/- Contract: tarnref2.ThinnedOf: the plants that stay. -/
import Derived.Test.YtgaonoklbihkjaaDoorThinCE
namespace Go.Proofs.YtgaonoklbihkjaaDoor
open Go.RowKit
attribute [local go_sem ↓] Go.wp_at_zero Go.wp_at_succ
attribute [local go_sem] run_store_float

def bools (m : Nat) (b : Nat → Bool) : Array Value := ((List.range m).map fun k => Value.bool (b k)).toArray
def upB (b : Nat → Bool) (i : Nat) (x : Bool) : Nat → Bool := fun k => if k = i then x else b k
theorem bools_get {m k : Nat} (b : Nat → Bool) (hk : k < m) : (bools m b)[k]? = some (.bool (b k)) := by
  unfold bools
  rw [List.getElem?_toArray, List.getElem?_map, List.getElem?_range hk]
  rfl
theorem bools_set {m k : Nat} (b : Nat → Bool) (x : Bool) : (bools m b).setIfInBounds k (.bool x) = bools m (upB b k x) := by
  apply Array.ext
  · simp [bools]
  · intro j h1 h2
    have hj : j < m := by simpa [bools] using h2
    have e1 : (bools m (upB b k x))[j] = .bool (upB b k x j) := by simp [bools]
    have e2 : (bools m b)[j]'(by simpa [bools] using hj) = .bool (b j) := by simp [bools]
    rw [Array.getElem_setIfInBounds (by simpa [bools] using hj), e1, e2]
    unfold upB
    by_cases h : k = j
    · rw [if_pos h, if_pos h.symm]
    · rw [if_neg h, if_neg (fun e => h e.symm)]
theorem infoBool : (Tryd.prog.info? 4).map (fun i => (i.zero, i.size, i.bytes)) = some (some (.bool false), 1, 1) := by kernel_rfl
theorem mk_bool (n : Nat) (hn : n ≤ 262144) (w : World) : (Instr.makeSlice 91 (.int .i64 (n : Int)) (.int .i64 (n : Int))).run Tryd.prog w =
    .ok (.slice (some ⟨w.heap.size, 0, none⟩) n n) (w.alloc (.cells (bools n fun _ => false) 4)) := by
  obtain ⟨i0, hi0, hz0, hz1, hz2⟩ := info_parts infoBool
  have h := run_make (P := Tryd.prog) w 91 4 i0 (.bool false) Tryd.underlying91 hi0 hz0 .i64 .i64 n n (by omega) (by omega) (by rw [hz2]; omega) (by omega)
  rw [hz1] at h
  have e : madeCells (Value.bool false).cells ((n : Int).toNat * 1) = bools n fun _ => false := by
    rw [Int.toNat_natCast]
    unfold madeCells bools
    apply Array.ext
    · simp
    · intro i h1 h2
      simp [Value.cells, Nat.mod_one]
  rw [e] at h
  simpa using h
theorem bools_congr {m : Nat} {f g : Nat → Bool} (h : ∀ k, k < m → f k = g k) : bools m f = bools m g := by
  unfold bools
  congr 1
  apply List.map_congr_left
  intro k hk
  rw [h k (List.mem_range.1 hk)]
theorem outT_zero (p o : List PlantR) (i : Nat) : outT p o 0 i = false := by unfold outT; simp
theorem stayT_zero (l : List KindR) (p o : List PlantR) (i : Nat) : stayT l p o 0 i = false := by unfold stayT; simp [stayL]
/-- whether one of the first i that stays is too close to k -/
def anyC (l : List KindR) (p o : List PlantR) (t k i : Nat) : Bool := (List.range i).any fun j => decide (j ≠ k) && (stayT l p o t j && cloB l (plK p j) (plK p k))
theorem anyC_succ (l : List KindR) (p o : List PlantR) (t k i : Nat) : anyC l p o t k (i + 1) = (anyC l p o t k i || (decide (i ≠ k) && (stayT l p o t i && cloB l (plK p i) (plK p k)))) := by
  unfold anyC
  rw [List.range_succ, List.any_append]
  simp
theorem filter_snoc (f : PlantR → Bool) {p : List PlantR} {i : Nat} (h : i < p.length) : (p.take (i + 1)).filter f = (p.take i).filter f ++ (if f p[i] = true then [p[i]] else []) := by
  rw [← List.take_append_getElem h, List.filter_append]
  congr 1
  cases hf : f p[i] <;> simp [hf]

set_option maxRecDepth 100000 in
set_option maxHeartbeats 12800000 in
theorem ThinnedOf_any (A : Option Addr) (n c : Nat) (l : List KindR) (B : Option Addr) (m d : Nat) (p o : List PlantR) (w : World) (hn : l.length = n) (hd : Rd w A (kcells l)) (hl : ∀ x ∈ l, x.err = 0)
    (hm : p.length = m) (hp : Rd w B (pcells p)) (hpe : ∀ a ∈ p, plantE l a = 0) (hbm : m ≤ 4000) (hr : Rises p) (hS : Stood p o) :
    Calls Tryd.prog 32 #[.slice A n c, .slice B m d] w fun e w' => ∃ v, e = .returned v ∧ OwnP w' w.heap.size v (restP l p o) ∧ Ext w w' := by
  have hsz : ∀ a ∈ p, Bd 20 a.size := fun a ha => (plant_good (hpe a ha) hl).choose_spec.choose_spec.2.2.2.2.2
  have HCl := fun (a b : PlantR) (w' : World) (ha : plantE l a = 0) (hb : plantE l b = 0) (hx : Ext w w') => hidA (Close_any A n c l a b w' hn (hd.ext hx) ha hb hl)
  have HSt := fun (a b : PlantR) (w' : World) (ha : Bd 20 a.size) (hb : Bd 20 b.size) => hidA (Stands_any a b w' ha hb)
  have HE := hidA hpe
  have HZ := hidA hsz
  have Hm := hidA hm
  have HR := hidA hr
  have HS := hidA hS
  have hmk := mk_bool m (by omega)
  obtain ⟨i0, hi0, hz0, hz1, hz2⟩ := info_parts infoPlant
  clear hpe hl hsz hn hm hr hS hd
  go_enter Tryd.func32, Tryd.ntmps32
  obtain ⟨w2, hw2⟩ : ∃ w2, w2 = (w.alloc (.cells (bools m fun _ => false) 4)).alloc (.cells (bools m fun _ => false) 4) := ⟨_, rfl⟩
  have hA2 : Bk w2 w.heap.size 4 (bools m (outT p o 0)) := by
    rw [bools_congr (g := fun _ => false) (fun k _ => outT_zero p o k), hw2]
    exact (Bk.new' rfl).alloc _
  have hB2 : Bk w2 (w.heap.size + 1) 4 (bools m (stayT l p o 0)) := by
    rw [bools_congr (g := fun _ => false) (fun k _ => stayT_zero l p o k), hw2]
    exact Bk.new' (by simp)
  have hx2 : Ext w w2 := by rw [hw2]; exact ((Ext.refl w).alloc _).alloc _
  go_upto_region 3 with fail
  rw [← hw2]
  clear hw2 hmk
  have hg1 : w.heap.size ≤ w.heap.size := Nat.le_refl _
  have hg2 : w.heap.size ≤ w.heap.size + 1 := Nat.le_succ _
  have hne : w.heap.size ≠ w.heap.size + 1 := by omega
  generalize hga : w.heap.size + 1 = gb at *
  generalize hgb : w.heap.size = ga at hA2 hne hg1 ⊢
  have hg1 : w.heap.size ≤ ga := by omega
  clear hga hgb
  go_wp2_with fail
  go_loopw [20] (fun s20 wr => ∃ t : Nat, t ≤ m ∧ s20 = .int .i64 t ∧ Bk wr ga 4 (bools m (outT p o t)) ∧ Bk wr gb 4 (bools m (stayT l p o t)) ∧ Ext w wr) (fun s20 _ => m - (intOf s20).toNat)
  case atStart => exact ⟨0, Nat.zero_le _, rfl, hA2, hB2, hx2⟩
  case round =>
    clear hA2 hB2 hx2
    obtain ⟨t, ht, rfl, hA, hB, hx⟩ := hrel
    obtain ⟨wo, rfl⟩ : ∃ wo, wo = wr := ⟨_, rfl⟩
    by_cases htm : t < m
    · have hto : t < o.length := by have := Hm.out; have := HS.out.length; omega
      obtain ⟨k, hk, hpk, hkt⟩ := pick_first HR.out HS.out hto
      rw [Hm.out] at hpk
      have Hpk := hidA hpk
      have Hkt := hidA hkt
      clear hpk hkt
      go_wp2_with fail
      go_loopw [7, 24] (fun s7 s24 wr => ∃ i : Nat, i ≤ m ∧ s24 = .int .i64 i ∧ s7 = .int .i64 (pickK p (outT p o t) i) ∧ Ext wo wr) (fun _ s24 _ => m - (intOf s24).toNat)
      case atStart => exact ⟨0, Nat.zero_le _, rfl, rfl, Ext.refl _⟩
      case round =>
        obtain ⟨i, hi, rfl, rfl, hxi⟩ := hrel
        by_cases him : i < m
        · have hil : i < p.length := by have := Hm.out; omega
          have hpw := hp.ext (hx.trans hxi)
          obtain ⟨ad, rfl, hbk, _⟩ := hp.at (k := i) (by rw [pcells_length]; omega)
          have i1 : (i : Int) < m := by omega
          have i2 : (0 : Int) ≤ i := by omega
          have A2 := hA.ext hxi
          have a0 : ∀ w', Ext wr w' → w'.cell? ⟨ga, i, none⟩ = some (.bool (outT p o t i)) := fun w' h => by rw [(A2.ext h).cell]; exact bools_get _ him
          have Hst := hidA (show pickK p (outT p o t) (i + 1) = if outT p o t i = false ∧ (pickK p (outT p o t) i < 0 ∨ ltS (plK p i) (plK p (pickK p (outT p o t) i).toNat) = true) then (i : Int) else pickK p (outT p o t) i from rfl)
          rcases pickK_is p (outT p o t) i with ⟨_, hpi⟩ | ⟨k2, hk2, hpi, _⟩
          · rw [hpi] at Hst ⊢
            have Hnx := Hst
            generalize hnx : pickK p (outT p o t) (i + 1) = nx at *
            have Hnx2 := hidA hnx
            clear hnx hpi
            cases hoi : outT p o t i
            · rw [hoi] at a0
              have hv : Hid (nx = (i : Int)) := by show nx = _; rw [Hst.out, if_pos ⟨hoi, .inl (by omega)⟩]
              clear Hst Hnx hoi HCl HSt
              go_upto_region 9 with fail
              refine wp_region_noPanic ?_
              refine wp_region_held_drew (S := fun w' => Ext wr w') (by kernel_rfl) ?_ (fun hHeld => ?_)
              · (repeat (first | exact Ext.refl _ | assumption | refine Ext.setCell ?_ (by first | (simp; done) | (simp; omega)) _ | refine Ext.drewN ?_ _ | refine Ext.alloc ?_ _ | refine Ext.drew ?_ | refine Ext.trans ?_ (by assumption)))
              refine wpAnyH_take (i := 0) (oi := ?o2x0) (v := ?v2x0) ?hi2x0 (by kernel_rfl) ?hf2x0 ?hr2x0 (fun _ _ _ h => h) ?hy2x0 (by assumption) ?rest2x0
              case hi2x0 => (simp only [List.getElem?_toArray, List.getElem?_cons_zero]; exact rfl)
              case hf2x0 => kernel_rfl
              case hr2x0 => kernel_rfl
              case hy2x0 => (refine Or.inl ⟨by rfl, ?_⟩; intro w hSw; (try dsimp only at hSw); go_simp; try with_reducible rfl)
              simp only [put_mk, List.set_cons_succ, List.set_cons_zero]
              refine wpAnyH_take (i := 1) (oi := ?o2x1) (v := ?v2x1) ?hi2x1 (by kernel_rfl) ?hf2x1 ?hr2x1 (fun _ _ _ h => h) ?hy2x1 (by assumption) ?rest2x1
              case hi2x1 => (simp only [List.getElem?_toArray, List.getElem?_cons_succ, List.getElem?_cons_zero]; exact rfl)
              case hf2x1 => kernel_rfl
              case hr2x1 => kernel_rfl
              case hy2x1 => (refine Or.inl ⟨by rfl, ?_⟩; intro w hSw; (try dsimp only at hSw); go_simp; try with_reducible rfl)
              simp only [put_mk, List.set_cons_succ, List.set_cons_zero]
              refine wpAnyH_take (i := 2) (oi := ?o2x2) (v := ?v2x2) ?hi2x2 (by kernel_rfl) ?hf2x2 ?hr2x2 (fun _ _ _ h => h) ?hy2x2 (by assumption) ?rest2x2
              case hi2x2 => (simp only [List.getElem?_toArray, List.getElem?_cons_succ, List.getElem?_cons_zero]; exact rfl)
              case hf2x2 => kernel_rfl
              case hr2x2 => kernel_rfl
              case hy2x2 => (refine Or.inl ⟨by rfl, ?_⟩; intro w hSw; (try dsimp only at hSw); go_simp; try with_reducible rfl)
              simp only [put_mk, List.set_cons_succ, List.set_cons_zero]
              refine wpAnyH_take (i := 3) (oi := ?o2x3) (v := ?v2x3) ?hi2x3 (by kernel_rfl) ?hf2x3 ?hr2x3 (fun _ _ _ h => h) ?hy2x3 (by assumption) ?rest2x3
              case hi2x3 => (simp only [List.getElem?_toArray, List.getElem?_cons_succ, List.getElem?_cons_zero]; exact rfl)
              case hf2x3 => kernel_rfl
              case hr2x3 => kernel_rfl
              case hy2x3 => (refine Or.inl ⟨by rfl, ?_⟩; intro w hSw; (try dsimp only at hSw); go_simp; try with_reducible rfl)
              simp only [put_mk, List.set_cons_succ, List.set_cons_zero]
              refine wpAnyH_take (i := 4) (oi := ?o2x4) (v := ?v2x4) ?hi2x4 (by kernel_rfl) ?hf2x4 ?hr2x4 (fun _ _ _ h => h) ?hy2x4 (by assumption) ?rest2x4
              case hi2x4 => (simp only [List.getElem?_toArray, List.getElem?_cons_succ, List.getElem?_cons_zero]; exact rfl)
              case hf2x4 => kernel_rfl
              case hr2x4 => kernel_rfl
              case hy2x4 => (refine Or.inl ⟨by rfl, ?_⟩; intro w hSw; (try dsimp only at hSw); go_simp; try with_reducible rfl)
              simp only [put_mk, List.set_cons_succ, List.set_cons_zero]
              refine wpAnyH_take (i := 5) (oi := ?o2x5) (v := ?v2x5) ?hi2x5 (by kernel_rfl) ?hf2x5 ?hr2x5 (fun _ _ _ h => h) ?hy2x5 (by assumption) ?rest2x5
              case hi2x5 => (simp only [List.getElem?_toArray, List.getElem?_cons_succ, List.getElem?_cons_zero]; exact rfl)
              case hf2x5 => kernel_rfl
              case hr2x5 => kernel_rfl
              case hy2x5 => (refine Or.inl ⟨by rfl, ?_⟩; intro w hSw; (try dsimp only at hSw); go_simp; try with_reducible rfl)
              simp only [put_mk, List.set_cons_succ, List.set_cons_zero]
              refine wpAnyH_take (i := 6) (oi := ?o2x6) (v := ?v2x6) ?hi2x6 (by kernel_rfl) ?hf2x6 ?hr2x6 (fun _ _ _ h => h) ?hy2x6 (by assumption) ?rest2x6
              case hi2x6 => (simp only [List.getElem?_toArray, List.getElem?_cons_succ, List.getElem?_cons_zero]; exact rfl)
              case hf2x6 => kernel_rfl
              case hr2x6 => kernel_rfl
              case hy2x6 => (refine Or.inl ⟨by rfl, ?_⟩; intro w hSw; (try dsimp only at hSw); go_simp; try with_reducible rfl)
              simp only [put_mk, List.set_cons_succ, List.set_cons_zero]
              refine wpAnyH_take (i := 7) (oi := ?o2x7) (v := ?v2x7) ?hi2x7 (by kernel_rfl) ?hf2x7 ?hr2x7 (fun _ _ _ h => h) ?hy2x7 (by assumption) ?rest2x7
              case hi2x7 => (simp only [List.getElem?_toArray, List.getElem?_cons_succ, List.getElem?_cons_zero]; exact rfl)
              case hf2x7 => kernel_rfl
              case hr2x7 => kernel_rfl
              case hy2x7 => (refine Or.inl ⟨by rfl, ?_⟩; intro w hSw; (try dsimp only at hSw); go_simp; try with_reducible rfl)
              simp only [put_mk, List.set_cons_succ, List.set_cons_zero]
              refine wpAnyH_take (i := 8) (oi := ?o2x8) (v := ?v2x8) ?hi2x8 (by kernel_rfl) ?hf2x8 ?hr2x8 (fun _ _ _ h => h) ?hy2x8 (by assumption) ?rest2x8
              case hi2x8 => (simp only [List.getElem?_toArray, List.getElem?_cons_succ, List.getElem?_cons_zero]; exact rfl)
              case hf2x8 => kernel_rfl
              case hr2x8 => kernel_rfl
              case hy2x8 => (refine Or.inl ⟨by rfl, ?_⟩; intro w hSw; (try dsimp only at hSw); go_simp; try with_reducible rfl)
              simp only [put_mk, List.set_cons_succ, List.set_cons_zero]
              refine wpAnyH_take (i := 9) (oi := ?o2x9) (v := undef) ?hi2x9 (by kernel_rfl) ?hf2x9 ?hr2x9 (fun _ _ _ h => h) ?hy2x9 (by assumption) ?rest2x9
              case hi2x9 => (simp only [List.getElem?_toArray, List.getElem?_cons_succ, List.getElem?_cons_zero]; exact rfl)
              case hf2x9 => kernel_rfl
              case hr2x9 => kernel_rfl
              case hy2x9 => exact Or.inr ⟨by rfl, rfl⟩
              simp only [put_mk, List.set_cons_succ, List.set_cons_zero]
              refine wpAnyH_take (i := 10) (oi := ?o2x10) (v := undef) ?hi2x10 (by kernel_rfl) ?hf2x10 ?hr2x10 (fun _ _ _ h => h) ?hy2x10 (by assumption) ?rest2x10
              case hi2x10 => (simp only [List.getElem?_toArray, List.getElem?_cons_succ, List.getElem?_cons_zero]; exact rfl)
              case hf2x10 => kernel_rfl
              case hr2x10 => kernel_rfl
              case hy2x10 => exact Or.inr ⟨by rfl, rfl⟩
              simp only [put_mk, List.set_cons_succ, List.set_cons_zero]
              refine wpAnyH_take (i := 11) (oi := ?o2x11) (v := undef) ?hi2x11 (by kernel_rfl) ?hf2x11 ?hr2x11 (fun _ _ _ h => h) ?hy2x11 (by assumption) ?rest2x11
              case hi2x11 => (simp only [List.getElem?_toArray, List.getElem?_cons_succ, List.getElem?_cons_zero]; exact rfl)
              case hf2x11 => kernel_rfl
              case hr2x11 => kernel_rfl
              case hy2x11 => exact Or.inr ⟨by rfl, rfl⟩
              simp only [put_mk, List.set_cons_succ, List.set_cons_zero]
              refine wpAnyH_take (i := 12) (oi := ?o2x12) (v := undef) ?hi2x12 (by kernel_rfl) ?hf2x12 ?hr2x12 (fun _ _ _ h => h) ?hy2x12 (by assumption) ?rest2x12
              case hi2x12 => (simp only [List.getElem?_toArray, List.getElem?_cons_succ, List.getElem?_cons_zero]; exact rfl)
              case hf2x12 => kernel_rfl
              case hr2x12 => kernel_rfl
              case hy2x12 => exact Or.inr ⟨by rfl, rfl⟩
              simp only [put_mk, List.set_cons_succ, List.set_cons_zero]
              refine wpAnyH_take (i := 13) (oi := ?o2x13) (v := undef) ?hi2x13 (by kernel_rfl) ?hf2x13 ?hr2x13 (fun _ _ _ h => h) ?hy2x13 (by assumption) ?rest2x13
              case hi2x13 => (simp only [List.getElem?_toArray, List.getElem?_cons_succ, List.getElem?_cons_zero]; exact rfl)
              case hf2x13 => kernel_rfl
              case hr2x13 => kernel_rfl
              case hy2x13 => exact Or.inr ⟨by rfl, rfl⟩
              simp only [put_mk, List.set_cons_succ, List.set_cons_zero]
              refine wpAnyH_take (i := 14) (oi := ?o2x14) (v := undef) ?hi2x14 (by kernel_rfl) ?hf2x14 ?hr2x14 (fun _ _ _ h => h) ?hy2x14 (by assumption) ?rest2x14
              case hi2x14 => (simp only [List.getElem?_toArray, List.getElem?_cons_succ, List.getElem?_cons_zero]; exact rfl)
              case hf2x14 => kernel_rfl
              case hr2x14 => kernel_rfl
              case hy2x14 => exact Or.inr ⟨by rfl, rfl⟩
              simp only [put_mk, List.set_cons_succ, List.set_cons_zero]
              refine wpAnyH_take (i := 15) (oi := ?o2x15) (v := undef) ?hi2x15 (by kernel_rfl) ?hf2x15 ?hr2x15 (fun _ _ _ h => h) ?hy2x15 (by assumption) ?rest2x15
              case hi2x15 => (simp only [List.getElem?_toArray, List.getElem?_cons_succ, List.getElem?_cons_zero]; exact rfl)
              case hf2x15 => kernel_rfl
              case hr2x15 => kernel_rfl
              case hy2x15 => exact Or.inr ⟨by rfl, rfl⟩
              simp only [put_mk, List.set_cons_succ, List.set_cons_zero]
              refine wpAnyH_take (i := 16) (oi := ?o2x16) (v := undef) ?hi2x16 (by kernel_rfl) ?hf2x16 ?hr2x16 (fun _ _ _ h => h) ?hy2x16 (by assumption) ?rest2x16
              case hi2x16 => (simp only [List.getElem?_toArray, List.getElem?_cons_succ, List.getElem?_cons_zero]; exact rfl)
              case hf2x16 => kernel_rfl
              case hr2x16 => kernel_rfl
              case hy2x16 => exact Or.inr ⟨by rfl, rfl⟩
              simp only [put_mk, List.set_cons_succ, List.set_cons_zero]
              refine wpAnyH_take (i := 17) (oi := ?o2x17) (v := undef) ?hi2x17 (by kernel_rfl) ?hf2x17 ?hr2x17 (fun _ _ _ h => h) ?hy2x17 (by assumption) ?rest2x17
              case hi2x17 => (simp only [List.getElem?_toArray, List.getElem?_cons_succ, List.getElem?_cons_zero]; exact rfl)
              case hf2x17 => kernel_rfl
              case hr2x17 => kernel_rfl
              case hy2x17 => exact Or.inr ⟨by rfl, rfl⟩
              simp only [put_mk, List.set_cons_succ, List.set_cons_zero]
              refine wpAnyH_take (i := 18) (oi := ?o2x18) (v := ?v2x18) ?hi2x18 (by kernel_rfl) ?hf2x18 ?hr2x18 (fun _ _ _ h => h) ?hy2x18 (by assumption) ?rest2x18
              case hi2x18 => (simp only [List.getElem?_toArray, List.getElem?_cons_succ, List.getElem?_cons_zero]; exact rfl)
              case hf2x18 => kernel_rfl
              case hr2x18 => kernel_rfl
              case hy2x18 => (refine Or.inl ⟨by rfl, ?_⟩; intro w hSw; (try dsimp only at hSw); go_simp; try with_reducible rfl)
              simp only [put_mk, List.set_cons_succ, List.set_cons_zero]
              refine wpAnyH_take (i := 19) (oi := ?o2x19) (v := ?v2x19) ?hi2x19 (by kernel_rfl) ?hf2x19 ?hr2x19 (fun _ _ _ h => h) ?hy2x19 (by assumption) ?rest2x19
              case hi2x19 => (simp only [List.getElem?_toArray, List.getElem?_cons_succ, List.getElem?_cons_zero]; exact rfl)
              case hf2x19 => kernel_rfl
              case hr2x19 => kernel_rfl
              case hy2x19 => (refine Or.inl ⟨by rfl, ?_⟩; intro w hSw; (try dsimp only at hSw); go_simp; try with_reducible rfl)
              simp only [put_mk, List.set_cons_succ, List.set_cons_zero]
              refine wpAnyH_done (by kernel_rfl) ?_ _
              refine NoPanic.normal ?_
              go_wp2_with fail
              go_roundw
              case rel => exact ⟨i + 1, by omega, congrArg (Value.int .i64) (by omega), by rw [Hnx2.out, hv.out], (by repeat (first | exact Ext.refl _ | assumption | refine Ext.setCell ?_ (by first | (simp; done) | (simp; omega)) _ | refine Ext.drewN ?_ _ | refine Ext.alloc ?_ _ | refine Ext.drew ?_ | refine Ext.trans ?_ (by assumption)))⟩
              case measure => simp [intOf]; omega
            · rw [hoi] at a0
              have hv : Hid (nx = -1) := by show nx = _; rw [Hst.out, if_neg (by rw [hoi]; rintro ⟨h, _⟩; cases h)]
              clear Hst Hnx hoi HCl HSt
              go_upto_region 9 with fail
              refine wp_region_noPanic ?_
              refine wp_region_held_drew (S := fun w' => Ext wr w') (by kernel_rfl) ?_ (fun hHeld => ?_)
              · (repeat (first | exact Ext.refl _ | assumption | refine Ext.setCell ?_ (by first | (simp; done) | (simp; omega)) _ | refine Ext.drewN ?_ _ | refine Ext.alloc ?_ _ | refine Ext.drew ?_ | refine Ext.trans ?_ (by assumption)))
              refine wpAnyH_take (i := 0) (oi := ?o6x0) (v := ?v6x0) ?hi6x0 (by kernel_rfl) ?hf6x0 ?hr6x0 (fun _ _ _ h => h) ?hy6x0 (by assumption) ?rest6x0
              case hi6x0 => (simp only [List.getElem?_toArray, List.getElem?_cons_zero]; exact rfl)
              case hf6x0 => kernel_rfl
              case hr6x0 => kernel_rfl
              case hy6x0 => (refine Or.inl ⟨by rfl, ?_⟩; intro w hSw; (try dsimp only at hSw); go_simp; try with_reducible rfl)
              simp only [put_mk, List.set_cons_succ, List.set_cons_zero]
              refine wpAnyH_take (i := 1) (oi := ?o6x1) (v := ?v6x1) ?hi6x1 (by kernel_rfl) ?hf6x1 ?hr6x1 (fun _ _ _ h => h) ?hy6x1 (by assumption) ?rest6x1
              case hi6x1 => (simp only [List.getElem?_toArray, List.getElem?_cons_succ, List.getElem?_cons_zero]; exact rfl)
              case hf6x1 => kernel_rfl
              case hr6x1 => kernel_rfl
              case hy6x1 => (refine Or.inl ⟨by rfl, ?_⟩; intro w hSw; (try dsimp only at hSw); go_simp; try with_reducible rfl)
              simp only [put_mk, List.set_cons_succ, List.set_cons_zero]
              refine wpAnyH_take (i := 2) (oi := ?o6x2) (v := ?v6x2) ?hi6x2 (by kernel_rfl) ?hf6x2 ?hr6x2 (fun _ _ _ h => h) ?hy6x2 (by assumption) ?rest6x2
              case hi6x2 => (simp only [List.getElem?_toArray, List.getElem?_cons_succ, List.getElem?_cons_zero]; exact rfl)
              case hf6x2 => kernel_rfl
              case hr6x2 => kernel_rfl
              case hy6x2 => (refine Or.inl ⟨by rfl, ?_⟩; intro w hSw; (try dsimp only at hSw); go_simp; try with_reducible rfl)
              simp only [put_mk, List.set_cons_succ, List.set_cons_zero]
              refine wpAnyH_take (i := 3) (oi := ?o6x3) (v := ?v6x3) ?hi6x3 (by kernel_rfl) ?hf6x3 ?hr6x3 (fun _ _ _ h => h) ?hy6x3 (by assumption) ?rest6x3
              case hi6x3 => (simp only [List.getElem?_toArray, List.getElem?_cons_succ, List.getElem?_cons_zero]; exact rfl)
              case hf6x3 => kernel_rfl
              case hr6x3 => kernel_rfl
              case hy6x3 => (refine Or.inl ⟨by rfl, ?_⟩; intro w hSw; (try dsimp only at hSw); go_simp; try with_reducible rfl)
              simp only [put_mk, List.set_cons_succ, List.set_cons_zero]
              refine wpAnyH_take (i := 4) (oi := ?o6x4) (v := ?v6x4) ?hi6x4 (by kernel_rfl) ?hf6x4 ?hr6x4 (fun _ _ _ h => h) ?hy6x4 (by assumption) ?rest6x4
              case hi6x4 => (simp only [List.getElem?_toArray, List.getElem?_cons_succ, List.getElem?_cons_zero]; exact rfl)
              case hf6x4 => kernel_rfl
              case hr6x4 => kernel_rfl
              case hy6x4 => (refine Or.inl ⟨by rfl, ?_⟩; intro w hSw; (try dsimp only at hSw); go_simp; try with_reducible rfl)
              simp only [put_mk, List.set_cons_succ, List.set_cons_zero]
              refine wpAnyH_take (i := 5) (oi := ?o6x5) (v := ?v6x5) ?hi6x5 (by kernel_rfl) ?hf6x5 ?hr6x5 (fun _ _ _ h => h) ?hy6x5 (by assumption) ?rest6x5
              case hi6x5 => (simp only [List.getElem?_toArray, List.getElem?_cons_succ, List.getElem?_cons_zero]; exact rfl)
              case hf6x5 => kernel_rfl
              case hr6x5 => kernel_rfl
              case hy6x5 => (refine Or.inl ⟨by rfl, ?_⟩; intro w hSw; (try dsimp only at hSw); go_simp; try with_reducible rfl)
              simp only [put_mk, List.set_cons_succ, List.set_cons_zero]
              refine wpAnyH_take (i := 6) (oi := ?o6x6) (v := undef) ?hi6x6 (by kernel_rfl) ?hf6x6 ?hr6x6 (fun _ _ _ h => h) ?hy6x6 (by assumption) ?rest6x6
              case hi6x6 => (simp only [List.getElem?_toArray, List.getElem?_cons_succ, List.getElem?_cons_zero]; exact rfl)
              case hf6x6 => kernel_rfl
              case hr6x6 => kernel_rfl
              case hy6x6 => exact Or.inr ⟨by rfl, rfl⟩
              simp only [put_mk, List.set_cons_succ, List.set_cons_zero]
              refine wpAnyH_take (i := 7) (oi := ?o6x7) (v := undef) ?hi6x7 (by kernel_rfl) ?hf6x7 ?hr6x7 (fun _ _ _ h => h) ?hy6x7 (by assumption) ?rest6x7
              case hi6x7 => (simp only [List.getElem?_toArray, List.getElem?_cons_succ, List.getElem?_cons_zero]; exact rfl)
              case hf6x7 => kernel_rfl
              case hr6x7 => kernel_rfl
              case hy6x7 => exact Or.inr ⟨by rfl, rfl⟩
              simp only [put_mk, List.set_cons_succ, List.set_cons_zero]
              refine wpAnyH_take (i := 8) (oi := ?o6x8) (v := undef) ?hi6x8 (by kernel_rfl) ?hf6x8 ?hr6x8 (fun _ _ _ h => h) ?hy6x8 (by assumption) ?rest6x8
              case hi6x8 => (simp only [List.getElem?_toArray, List.getElem?_cons_succ, List.getElem?_cons_zero]; exact rfl)
              case hf6x8 => kernel_rfl
              case hr6x8 => kernel_rfl
              case hy6x8 => exact Or.inr ⟨by rfl, rfl⟩
              simp only [put_mk, List.set_cons_succ, List.set_cons_zero]
              refine wpAnyH_take (i := 9) (oi := ?o6x9) (v := undef) ?hi6x9 (by kernel_rfl) ?hf6x9 ?hr6x9 (fun _ _ _ h => h) ?hy6x9 (by assumption) ?rest6x9
              case hi6x9 => (simp only [List.getElem?_toArray, List.getElem?_cons_succ, List.getElem?_cons_zero]; exact rfl)
              case hf6x9 => kernel_rfl
              case hr6x9 => kernel_rfl
              case hy6x9 => exact Or.inr ⟨by rfl, rfl⟩
              simp only [put_mk, List.set_cons_succ, List.set_cons_zero]
              refine wpAnyH_take (i := 10) (oi := ?o6x10) (v := undef) ?hi6x10 (by kernel_rfl) ?hf6x10 ?hr6x10 (fun _ _ _ h => h) ?hy6x10 (by assumption) ?rest6x10
              case hi6x10 => (simp only [List.getElem?_toArray, List.getElem?_cons_succ, List.getElem?_cons_zero]; exact rfl)
              case hf6x10 => kernel_rfl
              case hr6x10 => kernel_rfl
              case hy6x10 => exact Or.inr ⟨by rfl, rfl⟩
              simp only [put_mk, List.set_cons_succ, List.set_cons_zero]
              refine wpAnyH_take (i := 11) (oi := ?o6x11) (v := undef) ?hi6x11 (by kernel_rfl) ?hf6x11 ?hr6x11 (fun _ _ _ h => h) ?hy6x11 (by assumption) ?rest6x11
              case hi6x11 => (simp only [List.getElem?_toArray, List.getElem?_cons_succ, List.getElem?_cons_zero]; exact rfl)
              case hf6x11 => kernel_rfl
              case hr6x11 => kernel_rfl
              case hy6x11 => exact Or.inr ⟨by rfl, rfl⟩
              simp only [put_mk, List.set_cons_succ, List.set_cons_zero]
              refine wpAnyH_take (i := 12) (oi := ?o6x12) (v := undef) ?hi6x12 (by kernel_rfl) ?hf6x12 ?hr6x12 (fun _ _ _ h => h) ?hy6x12 (by assumption) ?rest6x12
              case hi6x12 => (simp only [List.getElem?_toArray, List.getElem?_cons_succ, List.getElem?_cons_zero]; exact rfl)
              case hf6x12 => kernel_rfl
              case hr6x12 => kernel_rfl
              case hy6x12 => exact Or.inr ⟨by rfl, rfl⟩
              simp only [put_mk, List.set_cons_succ, List.set_cons_zero]
              refine wpAnyH_take (i := 13) (oi := ?o6x13) (v := undef) ?hi6x13 (by kernel_rfl) ?hf6x13 ?hr6x13 (fun _ _ _ h => h) ?hy6x13 (by assumption) ?rest6x13
              case hi6x13 => (simp only [List.getElem?_toArray, List.getElem?_cons_succ, List.getElem?_cons_zero]; exact rfl)
              case hf6x13 => kernel_rfl
              case hr6x13 => kernel_rfl
              case hy6x13 => exact Or.inr ⟨by rfl, rfl⟩
              simp only [put_mk, List.set_cons_succ, List.set_cons_zero]
              refine wpAnyH_take (i := 14) (oi := ?o6x14) (v := undef) ?hi6x14 (by kernel_rfl) ?hf6x14 ?hr6x14 (fun _ _ _ h => h) ?hy6x14 (by assumption) ?rest6x14
              case hi6x14 => (simp only [List.getElem?_toArray, List.getElem?_cons_succ, List.getElem?_cons_zero]; exact rfl)
              case hf6x14 => kernel_rfl
              case hr6x14 => kernel_rfl
              case hy6x14 => exact Or.inr ⟨by rfl, rfl⟩
              simp only [put_mk, List.set_cons_succ, List.set_cons_zero]
              refine wpAnyH_take (i := 15) (oi := ?o6x15) (v := undef) ?hi6x15 (by kernel_rfl) ?hf6x15 ?hr6x15 (fun _ _ _ h => h) ?hy6x15 (by assumption) ?rest6x15
              case hi6x15 => (simp only [List.getElem?_toArray, List.getElem?_cons_succ, List.getElem?_cons_zero]; exact rfl)
              case hf6x15 => kernel_rfl
              case hr6x15 => kernel_rfl
              case hy6x15 => exact Or.inr ⟨by rfl, rfl⟩
              simp only [put_mk, List.set_cons_succ, List.set_cons_zero]
              refine wpAnyH_take (i := 16) (oi := ?o6x16) (v := undef) ?hi6x16 (by kernel_rfl) ?hf6x16 ?hr6x16 (fun _ _ _ h => h) ?hy6x16 (by assumption) ?rest6x16
              case hi6x16 => (simp only [List.getElem?_toArray, List.getElem?_cons_succ, List.getElem?_cons_zero]; exact rfl)
              case hf6x16 => kernel_rfl
              case hr6x16 => kernel_rfl
              case hy6x16 => exact Or.inr ⟨by rfl, rfl⟩
              simp only [put_mk, List.set_cons_succ, List.set_cons_zero]
              refine wpAnyH_take (i := 17) (oi := ?o6x17) (v := undef) ?hi6x17 (by kernel_rfl) ?hf6x17 ?hr6x17 (fun _ _ _ h => h) ?hy6x17 (by assumption) ?rest6x17
              case hi6x17 => (simp only [List.getElem?_toArray, List.getElem?_cons_succ, List.getElem?_cons_zero]; exact rfl)
              case hf6x17 => kernel_rfl
              case hr6x17 => kernel_rfl
              case hy6x17 => exact Or.inr ⟨by rfl, rfl⟩
              simp only [put_mk, List.set_cons_succ, List.set_cons_zero]
              refine wpAnyH_take (i := 18) (oi := ?o6x18) (v := undef) ?hi6x18 (by kernel_rfl) ?hf6x18 ?hr6x18 (fun _ _ _ h => h) ?hy6x18 (by assumption) ?rest6x18
              case hi6x18 => (simp only [List.getElem?_toArray, List.getElem?_cons_succ, List.getElem?_cons_zero]; exact rfl)
              case hf6x18 => kernel_rfl
              case hr6x18 => kernel_rfl
              case hy6x18 => exact Or.inr ⟨by rfl, rfl⟩
              simp only [put_mk, List.set_cons_succ, List.set_cons_zero]
              refine wpAnyH_take (i := 19) (oi := ?o6x19) (v := ?v6x19) ?hi6x19 (by kernel_rfl) ?hf6x19 ?hr6x19 (fun _ _ _ h => h) ?hy6x19 (by assumption) ?rest6x19
              case hi6x19 => (simp only [List.getElem?_toArray, List.getElem?_cons_succ, List.getElem?_cons_zero]; exact rfl)
              case hf6x19 => kernel_rfl
              case hr6x19 => kernel_rfl
              case hy6x19 => (refine Or.inl ⟨by rfl, ?_⟩; intro w hSw; (try dsimp only at hSw); go_simp; try with_reducible rfl)
              simp only [put_mk, List.set_cons_succ, List.set_cons_zero]
              refine wpAnyH_done (by kernel_rfl) ?_ _
              refine NoPanic.normal ?_
              go_wp2_with fail
              go_roundw
              case rel => exact ⟨i + 1, by omega, congrArg (Value.int .i64) (by omega), by rw [Hnx2.out, hv.out], (by repeat (first | exact Ext.refl _ | assumption | refine Ext.setCell ?_ (by first | (simp; done) | (simp; omega)) _ | refine Ext.drewN ?_ _ | refine Ext.alloc ?_ _ | refine Ext.drew ?_ | refine Ext.trans ?_ (by assumption)))⟩
              case measure => simp [intOf]; omega
          · rw [hpi, Int.toNat_natCast] at Hst
            rw [hpi]
            generalize hnx : pickK p (outT p o t) (i + 1) = nx at *
            have Hnx2 := hidA hnx
            clear hnx hpi
            have hk2l : k2 < p.length := by omega
            rw [plK_at hil, plK_at hk2l] at Hst
            have c1 : (k2 : Int) < m := by omega
            have c2 : (0 : Int) ≤ k2 := by omega
            have c3 : ((k2 : Int) < 0) = False := by simp
            cases hoi : outT p o t i
            · rw [hoi] at a0
              obtain ⟨d0, d1, d2, d3, d4⟩ := hpw.plant hil
              obtain ⟨f0, f1, f2, f3, f4⟩ := hpw.plant hk2l
              have HSk := fun (w' : World) => HSt p[i] p[k2] w' (HZ.out _ (List.getElem_mem hil)) (HZ.out _ (List.getElem_mem hk2l))
              have hbw : ad.block < wr.heap.size := by have := hx.size; have := hxi.size; omega
              have D0 : ∀ w', Ext wr w' → w'.cell? (ad.add (i * 5)) = some (.int .i64 p[i].kind) := fun w' h => (h.cell _ (by first | (show (ad.add (i * 5)).block < _; rw [add_block]; exact hbw) | (rw [add_block]; exact hbw))).trans d0
              have D1 : ∀ w', Ext wr w' → w'.cell? ⟨(ad.add (i * 5)).block, (ad.add (i * 5)).off + 1, none⟩ = some (.int .i64 p[i].x) := fun w' h => (h.cell _ (by first | (show (ad.add (i * 5)).block < _; rw [add_block]; exact hbw) | (rw [add_block]; exact hbw))).trans d1
              have D2 : ∀ w', Ext wr w' → w'.cell? ⟨(ad.add (i * 5)).block, (ad.add (i * 5)).off + 2, none⟩ = some (.int .i64 p[i].y) := fun w' h => (h.cell _ (by first | (show (ad.add (i * 5)).block < _; rw [add_block]; exact hbw) | (rw [add_block]; exact hbw))).trans d2
              have D3 : ∀ w', Ext wr w' → w'.cell? ⟨(ad.add (i * 5)).block, (ad.add (i * 5)).off + 3, none⟩ = some (.float .f32 p[i].size) := fun w' h => (h.cell _ (by first | (show (ad.add (i * 5)).block < _; rw [add_block]; exact hbw) | (rw [add_block]; exact hbw))).trans d3
              have D4 : ∀ w', Ext wr w' → w'.cell? ⟨(ad.add (i * 5)).block, (ad.add (i * 5)).off + 4, none⟩ = some (.int .i64 p[i].age) := fun w' h => (h.cell _ (by first | (show (ad.add (i * 5)).block < _; rw [add_block]; exact hbw) | (rw [add_block]; exact hbw))).trans d4
              have F0 : ∀ w', Ext wr w' → w'.cell? (ad.add (k2 * 5)) = some (.int .i64 p[k2].kind) := fun w' h => (h.cell _ (by first | (show (ad.add (k2 * 5)).block < _; rw [add_block]; exact hbw) | (rw [add_block]; exact hbw))).trans f0
              have F1 : ∀ w', Ext wr w' → w'.cell? ⟨(ad.add (k2 * 5)).block, (ad.add (k2 * 5)).off + 1, none⟩ = some (.int .i64 p[k2].x) := fun w' h => (h.cell _ (by first | (show (ad.add (k2 * 5)).block < _; rw [add_block]; exact hbw) | (rw [add_block]; exact hbw))).trans f1
              have F2 : ∀ w', Ext wr w' → w'.cell? ⟨(ad.add (k2 * 5)).block, (ad.add (k2 * 5)).off + 2, none⟩ = some (.int .i64 p[k2].y) := fun w' h => (h.cell _ (by first | (show (ad.add (k2 * 5)).block < _; rw [add_block]; exact hbw) | (rw [add_block]; exact hbw))).trans f2
              have F3 : ∀ w', Ext wr w' → w'.cell? ⟨(ad.add (k2 * 5)).block, (ad.add (k2 * 5)).off + 3, none⟩ = some (.float .f32 p[k2].size) := fun w' h => (h.cell _ (by first | (show (ad.add (k2 * 5)).block < _; rw [add_block]; exact hbw) | (rw [add_block]; exact hbw))).trans f3
              have F4 : ∀ w', Ext wr w' → w'.cell? ⟨(ad.add (k2 * 5)).block, (ad.add (k2 * 5)).off + 4, none⟩ = some (.int .i64 p[k2].age) := fun w' h => (h.cell _ (by first | (show (ad.add (k2 * 5)).block < _; rw [add_block]; exact hbw) | (rw [add_block]; exact hbw))).trans f4
              generalize hlt : ltS p[i] p[k2] = b at *
              clear hlt
              generalize p[i] = x at *
              generalize p[k2] = y at *
              obtain ⟨kd, px, py, sz, ag⟩ := x
              obtain ⟨kd2, px2, py2, sz2, ag2⟩ := y
              dsimp only at D0 D1 D2 D3 D4 F0 F1 F2 F3 F4
              simp only [PlantR.v] at HSk
              clear HCl HSt d0 d1 d2 d3 d4 f0 f1 f2 f3 f4
              cases b
              · have hv : Hid (nx = (k2 : Int)) := by show nx = _; rw [Hst.out, if_neg (by rintro ⟨_, h | h⟩ <;> first | omega | cases h)]
                clear Hst hoi
                go_upto_region 9 with fail
                refine wp_region_noPanic ?_
                refine wp_region_held_drew (S := fun w' => Ext wr w') (by kernel_rfl) ?_ (fun hHeld => ?_)
                · (repeat (first | exact Ext.refl _ | assumption | refine Ext.setCell ?_ (by first | (simp; done) | (simp; omega)) _ | refine Ext.drewN ?_ _ | refine Ext.alloc ?_ _ | refine Ext.drew ?_ | refine Ext.trans ?_ (by assumption)))
                refine wpAnyH_take (i := 0) (oi := ?o7x0) (v := ?v7x0) ?hi7x0 (by kernel_rfl) ?hf7x0 ?hr7x0 (fun _ _ _ h => h) ?hy7x0 (by assumption) ?rest7x0
                case hi7x0 => (simp only [List.getElem?_toArray, List.getElem?_cons_zero]; exact rfl)
                case hf7x0 => kernel_rfl
                case hr7x0 => kernel_rfl
                case hy7x0 => (refine Or.inl ⟨by rfl, ?_⟩; intro w hSw; (try dsimp only at hSw); go_simp; try with_reducible rfl)
                simp only [put_mk, List.set_cons_succ, List.set_cons_zero]
                refine wpAnyH_take (i := 1) (oi := ?o7x1) (v := ?v7x1) ?hi7x1 (by kernel_rfl) ?hf7x1 ?hr7x1 (fun _ _ _ h => h) ?hy7x1 (by assumption) ?rest7x1
                case hi7x1 => (simp only [List.getElem?_toArray, List.getElem?_cons_succ, List.getElem?_cons_zero]; exact rfl)
                case hf7x1 => kernel_rfl
                case hr7x1 => kernel_rfl
                case hy7x1 => (refine Or.inl ⟨by rfl, ?_⟩; intro w hSw; (try dsimp only at hSw); go_simp; try with_reducible rfl)
                simp only [put_mk, List.set_cons_succ, List.set_cons_zero]
                refine wpAnyH_take (i := 2) (oi := ?o7x2) (v := ?v7x2) ?hi7x2 (by kernel_rfl) ?hf7x2 ?hr7x2 (fun _ _ _ h => h) ?hy7x2 (by assumption) ?rest7x2
                case hi7x2 => (simp only [List.getElem?_toArray, List.getElem?_cons_succ, List.getElem?_cons_zero]; exact rfl)
                case hf7x2 => kernel_rfl
                case hr7x2 => kernel_rfl
                case hy7x2 => (refine Or.inl ⟨by rfl, ?_⟩; intro w hSw; (try dsimp only at hSw); go_simp; try with_reducible rfl)
                simp only [put_mk, List.set_cons_succ, List.set_cons_zero]
                refine wpAnyH_take (i := 3) (oi := ?o7x3) (v := ?v7x3) ?hi7x3 (by kernel_rfl) ?hf7x3 ?hr7x3 (fun _ _ _ h => h) ?hy7x3 (by assumption) ?rest7x3
                case hi7x3 => (simp only [List.getElem?_toArray, List.getElem?_cons_succ, List.getElem?_cons_zero]; exact rfl)
                case hf7x3 => kernel_rfl
                case hr7x3 => kernel_rfl
                case hy7x3 => (refine Or.inl ⟨by rfl, ?_⟩; intro w hSw; (try dsimp only at hSw); go_simp; try with_reducible rfl)
                simp only [put_mk, List.set_cons_succ, List.set_cons_zero]
                refine wpAnyH_take (i := 4) (oi := ?o7x4) (v := ?v7x4) ?hi7x4 (by kernel_rfl) ?hf7x4 ?hr7x4 (fun _ _ _ h => h) ?hy7x4 (by assumption) ?rest7x4
                case hi7x4 => (simp only [List.getElem?_toArray, List.getElem?_cons_succ, List.getElem?_cons_zero]; exact rfl)
                case hf7x4 => kernel_rfl
                case hr7x4 => kernel_rfl
                case hy7x4 => (refine Or.inl ⟨by rfl, ?_⟩; intro w hSw; (try dsimp only at hSw); go_simp; try with_reducible rfl)
                simp only [put_mk, List.set_cons_succ, List.set_cons_zero]
                refine wpAnyH_take (i := 5) (oi := ?o7x5) (v := ?v7x5) ?hi7x5 (by kernel_rfl) ?hf7x5 ?hr7x5 (fun _ _ _ h => h) ?hy7x5 (by assumption) ?rest7x5
                case hi7x5 => (simp only [List.getElem?_toArray, List.getElem?_cons_succ, List.getElem?_cons_zero]; exact rfl)
                case hf7x5 => kernel_rfl
                case hr7x5 => kernel_rfl
                case hy7x5 => (refine Or.inl ⟨by rfl, ?_⟩; intro w hSw; (try dsimp only at hSw); go_simp; try with_reducible rfl)
                simp only [put_mk, List.set_cons_succ, List.set_cons_zero]
                refine wpAnyH_take (i := 6) (oi := ?o7x6) (v := ?v7x6) ?hi7x6 (by kernel_rfl) ?hf7x6 ?hr7x6 (fun _ _ _ h => h) ?hy7x6 (by assumption) ?rest7x6
                case hi7x6 => (simp only [List.getElem?_toArray, List.getElem?_cons_succ, List.getElem?_cons_zero]; exact rfl)
                case hf7x6 => kernel_rfl
                case hr7x6 => kernel_rfl
                case hy7x6 => (refine Or.inl ⟨by rfl, ?_⟩; intro w hSw; (try dsimp only at hSw); go_simp; try with_reducible rfl)
                simp only [put_mk, List.set_cons_succ, List.set_cons_zero]
                refine wpAnyH_take (i := 7) (oi := ?o7x7) (v := ?v7x7) ?hi7x7 (by kernel_rfl) ?hf7x7 ?hr7x7 (fun _ _ _ h => h) ?hy7x7 (by assumption) ?rest7x7
                case hi7x7 => (simp only [List.getElem?_toArray, List.getElem?_cons_succ, List.getElem?_cons_zero]; exact rfl)
                case hf7x7 => kernel_rfl
                case hr7x7 => kernel_rfl
                case hy7x7 => (refine Or.inl ⟨by rfl, ?_⟩; intro w hSw; (try dsimp only at hSw); go_simp; try with_reducible rfl)
                simp only [put_mk, List.set_cons_succ, List.set_cons_zero]
                refine wpAnyH_take (i := 8) (oi := ?o7x8) (v := ?v7x8) ?hi7x8 (by kernel_rfl) ?hf7x8 ?hr7x8 (fun _ _ _ h => h) ?hy7x8 (by assumption) ?rest7x8
                case hi7x8 => (simp only [List.getElem?_toArray, List.getElem?_cons_succ, List.getElem?_cons_zero]; exact rfl)
                case hf7x8 => kernel_rfl
                case hr7x8 => kernel_rfl
                case hy7x8 => (refine Or.inl ⟨by rfl, ?_⟩; intro w hSw; (try dsimp only at hSw); go_simp; try with_reducible rfl)
                simp only [put_mk, List.set_cons_succ, List.set_cons_zero]
                refine wpAnyH_take (i := 9) (oi := ?o7x9) (v := ?v7x9) ?hi7x9 (by kernel_rfl) ?hf7x9 ?hr7x9 (fun _ _ _ h => h) ?hy7x9 (by assumption) ?rest7x9
                case hi7x9 => (simp only [List.getElem?_toArray, List.getElem?_cons_succ, List.getElem?_cons_zero]; exact rfl)
                case hf7x9 => kernel_rfl
                case hr7x9 => kernel_rfl
                case hy7x9 => (refine Or.inl ⟨by rfl, ?_⟩; intro w hSw; (try dsimp only at hSw); go_simp; try with_reducible rfl)
                simp only [put_mk, List.set_cons_succ, List.set_cons_zero]
                refine wpAnyH_take (i := 10) (oi := ?o7x10) (v := ?v7x10) ?hi7x10 (by kernel_rfl) ?hf7x10 ?hr7x10 (fun _ _ _ h => h) ?hy7x10 (by assumption) ?rest7x10
                case hi7x10 => (simp only [List.getElem?_toArray, List.getElem?_cons_succ, List.getElem?_cons_zero]; exact rfl)
                case hf7x10 => kernel_rfl
                case hr7x10 => kernel_rfl
                case hy7x10 => (refine Or.inl ⟨by rfl, ?_⟩; intro w hSw; (try dsimp only at hSw); go_simp; try with_reducible rfl)
                simp only [put_mk, List.set_cons_succ, List.set_cons_zero]
                refine wpAnyH_take (i := 11) (oi := ?o7x11) (v := ?v7x11) ?hi7x11 (by kernel_rfl) ?hf7x11 ?hr7x11 (fun _ _ _ h => h) ?hy7x11 (by assumption) ?rest7x11
                case hi7x11 => (simp only [List.getElem?_toArray, List.getElem?_cons_succ, List.getElem?_cons_zero]; exact rfl)
                case hf7x11 => kernel_rfl
                case hr7x11 => kernel_rfl
                case hy7x11 => (refine Or.inl ⟨by rfl, ?_⟩; intro w hSw; (try dsimp only at hSw); go_simp; try with_reducible rfl)
                simp only [put_mk, List.set_cons_succ, List.set_cons_zero]
                refine wpAnyH_take (i := 12) (oi := ?o7x12) (v := ?v7x12) ?hi7x12 (by kernel_rfl) ?hf7x12 ?hr7x12 (fun _ _ _ h => h) ?hy7x12 (by assumption) ?rest7x12
                case hi7x12 => (simp only [List.getElem?_toArray, List.getElem?_cons_succ, List.getElem?_cons_zero]; exact rfl)
                case hf7x12 => kernel_rfl
                case hr7x12 => kernel_rfl
                case hy7x12 => (refine Or.inl ⟨by rfl, ?_⟩; intro w hSw; (try dsimp only at hSw); go_simp; try with_reducible rfl)
                simp only [put_mk, List.set_cons_succ, List.set_cons_zero]
                refine wpAnyH_take (i := 13) (oi := ?o7x13) (v := ?v7x13) ?hi7x13 (by kernel_rfl) ?hf7x13 ?hr7x13 (fun _ _ _ h => h) ?hy7x13 (by assumption) ?rest7x13
                case hi7x13 => (simp only [List.getElem?_toArray, List.getElem?_cons_succ, List.getElem?_cons_zero]; exact rfl)
                case hf7x13 => kernel_rfl
                case hr7x13 => kernel_rfl
                case hy7x13 => (refine Or.inl ⟨by rfl, ?_⟩; intro w hSw; (try dsimp only at hSw); go_simp; try with_reducible rfl)
                simp only [put_mk, List.set_cons_succ, List.set_cons_zero]
                refine wpAnyH_take (i := 14) (oi := ?o7x14) (v := ?v7x14) ?hi7x14 (by kernel_rfl) ?hf7x14 ?hr7x14 (fun _ _ _ h => h) ?hy7x14 (by assumption) ?rest7x14
                case hi7x14 => (simp only [List.getElem?_toArray, List.getElem?_cons_succ, List.getElem?_cons_zero]; exact rfl)
                case hf7x14 => kernel_rfl
                case hr7x14 => kernel_rfl
                case hy7x14 => (refine Or.inl ⟨by rfl, ?_⟩; intro w hSw; (try dsimp only at hSw); go_simp; try with_reducible rfl)
                simp only [put_mk, List.set_cons_succ, List.set_cons_zero]
                refine wpAnyH_take (i := 15) (oi := ?o7x15) (v := ?v7x15) ?hi7x15 (by kernel_rfl) ?hf7x15 ?hr7x15 (fun _ _ _ h => h) ?hy7x15 (by assumption) ?rest7x15
                case hi7x15 => (simp only [List.getElem?_toArray, List.getElem?_cons_succ, List.getElem?_cons_zero]; exact rfl)
                case hf7x15 => kernel_rfl
                case hr7x15 => kernel_rfl
                case hy7x15 => (refine Or.inl ⟨by rfl, ?_⟩; intro w hSw; (try dsimp only at hSw); go_simp; try with_reducible rfl)
                simp only [put_mk, List.set_cons_succ, List.set_cons_zero]
                refine wpAnyH_take (i := 16) (oi := ?o7x16) (v := ?v7x16) ?hi7x16 (by kernel_rfl) ?hf7x16 ?hr7x16 (fun _ _ _ h => h) ?hy7x16 (by assumption) ?rest7x16
                case hi7x16 => (simp only [List.getElem?_toArray, List.getElem?_cons_succ, List.getElem?_cons_zero]; exact rfl)
                case hf7x16 => kernel_rfl
                case hr7x16 => kernel_rfl
                case hy7x16 => (refine Or.inl ⟨by rfl, ?_⟩; intro w hSw; (try dsimp only at hSw); go_simp; try with_reducible rfl)
                simp only [put_mk, List.set_cons_succ, List.set_cons_zero]
                refine wpAnyH_ready (rs := [17]) (by kernel_rfl) (by simp) ?_
                refine AllReadyH.cons (o := ?o7x17) ?hi7x17 (fun K hK => ?_) AllReadyH.nil
                case hi7x17 => (simp only [List.getElem?_toArray, List.getElem?_cons_succ, List.getElem?_cons_zero]; exact rfl)
                go_simp
                refine ((HSk _).out).mono ?_
                rintro e w6 ⟨rfl, hb6⟩
                refine hK.out _ _ ?_ (fun hHeld => ?_)
                · (repeat (first | exact Ext.refl _ | assumption | refine Ext.setCell ?_ (by first | (simp; done) | (simp; omega)) _ | refine Ext.drewN ?_ _ | refine Ext.alloc ?_ _ | refine Ext.drew ?_ | refine Ext.trans ?_ (by assumption)))
                clear hK K
                refine wpAnyH_take (i := 18) (oi := ?o7x18) (v := ?v7x18) ?hi7x18 (by kernel_rfl) ?hf7x18 ?hr7x18 (fun _ _ _ h => h) ?hy7x18 (by assumption) ?rest7x18
                case hi7x18 => (simp only [List.getElem?_toArray, List.getElem?_cons_succ, List.getElem?_cons_zero]; exact rfl)
                case hf7x18 => kernel_rfl
                case hr7x18 => kernel_rfl
                case hy7x18 => (refine Or.inl ⟨by rfl, ?_⟩; intro w hSw; (try dsimp only at hSw); go_simp; try with_reducible rfl)
                simp only [put_mk, List.set_cons_succ, List.set_cons_zero]
                refine wpAnyH_take (i := 19) (oi := ?o7x19) (v := ?v7x19) ?hi7x19 (by kernel_rfl) ?hf7x19 ?hr7x19 (fun _ _ _ h => h) ?hy7x19 (by assumption) ?rest7x19
                case hi7x19 => (simp only [List.getElem?_toArray, List.getElem?_cons_succ, List.getElem?_cons_zero]; exact rfl)
                case hf7x19 => kernel_rfl
                case hr7x19 => kernel_rfl
                case hy7x19 => (refine Or.inl ⟨by rfl, ?_⟩; intro w hSw; (try dsimp only at hSw); go_simp; try with_reducible rfl)
                simp only [put_mk, List.set_cons_succ, List.set_cons_zero]
                refine wpAnyH_done (by kernel_rfl) ?_ _
                refine NoPanic.normal ?_
                go_wp2_with fail
                go_roundw
                case rel => exact ⟨i + 1, by omega, congrArg (Value.int .i64) (by omega), by rw [Hnx2.out, hv.out], (by repeat (first | exact Ext.refl _ | assumption | refine Ext.setCell ?_ (by first | (simp; done) | (simp; omega)) _ | refine Ext.drewN ?_ _ | refine Ext.alloc ?_ _ | refine Ext.drew ?_ | refine Ext.trans ?_ (by assumption)))⟩
                case measure => simp [intOf]; omega
              · have hv : Hid (nx = (i : Int)) := by show nx = _; rw [Hst.out, if_pos ⟨hoi, .inr rfl⟩]
                clear Hst hoi
                go_upto_region 9 with fail
                refine wp_region_noPanic ?_
                refine wp_region_held_drew (S := fun w' => Ext wr w') (by kernel_rfl) ?_ (fun hHeld => ?_)
                · (repeat (first | exact Ext.refl _ | assumption | refine Ext.setCell ?_ (by first | (simp; done) | (simp; omega)) _ | refine Ext.drewN ?_ _ | refine Ext.alloc ?_ _ | refine Ext.drew ?_ | refine Ext.trans ?_ (by assumption)))
                refine wpAnyH_take (i := 0) (oi := ?o8x0) (v := ?v8x0) ?hi8x0 (by kernel_rfl) ?hf8x0 ?hr8x0 (fun _ _ _ h => h) ?hy8x0 (by assumption) ?rest8x0
                case hi8x0 => (simp only [List.getElem?_toArray, List.getElem?_cons_zero]; exact rfl)
                case hf8x0 => kernel_rfl
                case hr8x0 => kernel_rfl
                case hy8x0 => (refine Or.inl ⟨by rfl, ?_⟩; intro w hSw; (try dsimp only at hSw); go_simp; try with_reducible rfl)
                simp only [put_mk, List.set_cons_succ, List.set_cons_zero]
                refine wpAnyH_take (i := 1) (oi := ?o8x1) (v := ?v8x1) ?hi8x1 (by kernel_rfl) ?hf8x1 ?hr8x1 (fun _ _ _ h => h) ?hy8x1 (by assumption) ?rest8x1
                case hi8x1 => (simp only [List.getElem?_toArray, List.getElem?_cons_succ, List.getElem?_cons_zero]; exact rfl)
                case hf8x1 => kernel_rfl
                case hr8x1 => kernel_rfl
                case hy8x1 => (refine Or.inl ⟨by rfl, ?_⟩; intro w hSw; (try dsimp only at hSw); go_simp; try with_reducible rfl)
                simp only [put_mk, List.set_cons_succ, List.set_cons_zero]
                refine wpAnyH_take (i := 2) (oi := ?o8x2) (v := ?v8x2) ?hi8x2 (by kernel_rfl) ?hf8x2 ?hr8x2 (fun _ _ _ h => h) ?hy8x2 (by assumption) ?rest8x2
                case hi8x2 => (simp only [List.getElem?_toArray, List.getElem?_cons_succ, List.getElem?_cons_zero]; exact rfl)
                case hf8x2 => kernel_rfl
                case hr8x2 => kernel_rfl
                case hy8x2 => (refine Or.inl ⟨by rfl, ?_⟩; intro w hSw; (try dsimp only at hSw); go_simp; try with_reducible rfl)
                simp only [put_mk, List.set_cons_succ, List.set_cons_zero]
                refine wpAnyH_take (i := 3) (oi := ?o8x3) (v := ?v8x3) ?hi8x3 (by kernel_rfl) ?hf8x3 ?hr8x3 (fun _ _ _ h => h) ?hy8x3 (by assumption) ?rest8x3
                case hi8x3 => (simp only [List.getElem?_toArray, List.getElem?_cons_succ, List.getElem?_cons_zero]; exact rfl)
                case hf8x3 => kernel_rfl
                case hr8x3 => kernel_rfl
                case hy8x3 => (refine Or.inl ⟨by rfl, ?_⟩; intro w hSw; (try dsimp only at hSw); go_simp; try with_reducible rfl)
                simp only [put_mk, List.set_cons_succ, List.set_cons_zero]
                refine wpAnyH_take (i := 4) (oi := ?o8x4) (v := ?v8x4) ?hi8x4 (by kernel_rfl) ?hf8x4 ?hr8x4 (fun _ _ _ h => h) ?hy8x4 (by assumption) ?rest8x4
                case hi8x4 => (simp only [List.getElem?_toArray, List.getElem?_cons_succ, List.getElem?_cons_zero]; exact rfl)
                case hf8x4 => kernel_rfl
                case hr8x4 => kernel_rfl
                case hy8x4 => (refine Or.inl ⟨by rfl, ?_⟩; intro w hSw; (try dsimp only at hSw); go_simp; try with_reducible rfl)
                simp only [put_mk, List.set_cons_succ, List.set_cons_zero]
                refine wpAnyH_take (i := 5) (oi := ?o8x5) (v := ?v8x5) ?hi8x5 (by kernel_rfl) ?hf8x5 ?hr8x5 (fun _ _ _ h => h) ?hy8x5 (by assumption) ?rest8x5
                case hi8x5 => (simp only [List.getElem?_toArray, List.getElem?_cons_succ, List.getElem?_cons_zero]; exact rfl)
                case hf8x5 => kernel_rfl
                case hr8x5 => kernel_rfl
                case hy8x5 => (refine Or.inl ⟨by rfl, ?_⟩; intro w hSw; (try dsimp only at hSw); go_simp; try with_reducible rfl)
                simp only [put_mk, List.set_cons_succ, List.set_cons_zero]
                refine wpAnyH_take (i := 6) (oi := ?o8x6) (v := ?v8x6) ?hi8x6 (by kernel_rfl) ?hf8x6 ?hr8x6 (fun _ _ _ h => h) ?hy8x6 (by assumption) ?rest8x6
                case hi8x6 => (simp only [List.getElem?_toArray, List.getElem?_cons_succ, List.getElem?_cons_zero]; exact rfl)
                case hf8x6 => kernel_rfl
                case hr8x6 => kernel_rfl
                case hy8x6 => (refine Or.inl ⟨by rfl, ?_⟩; intro w hSw; (try dsimp only at hSw); go_simp; try with_reducible rfl)
                simp only [put_mk, List.set_cons_succ, List.set_cons_zero]
                refine wpAnyH_take (i := 7) (oi := ?o8x7) (v := ?v8x7) ?hi8x7 (by kernel_rfl) ?hf8x7 ?hr8x7 (fun _ _ _ h => h) ?hy8x7 (by assumption) ?rest8x7
                case hi8x7 => (simp only [List.getElem?_toArray, List.getElem?_cons_succ, List.getElem?_cons_zero]; exact rfl)
                case hf8x7 => kernel_rfl
                case hr8x7 => kernel_rfl
                case hy8x7 => (refine Or.inl ⟨by rfl, ?_⟩; intro w hSw; (try dsimp only at hSw); go_simp; try with_reducible rfl)
                simp only [put_mk, List.set_cons_succ, List.set_cons_zero]
                refine wpAnyH_take (i := 8) (oi := ?o8x8) (v := ?v8x8) ?hi8x8 (by kernel_rfl) ?hf8x8 ?hr8x8 (fun _ _ _ h => h) ?hy8x8 (by assumption) ?rest8x8
                case hi8x8 => (simp only [List.getElem?_toArray, List.getElem?_cons_succ, List.getElem?_cons_zero]; exact rfl)
                case hf8x8 => kernel_rfl
                case hr8x8 => kernel_rfl
                case hy8x8 => (refine Or.inl ⟨by rfl, ?_⟩; intro w hSw; (try dsimp only at hSw); go_simp; try with_reducible rfl)
                simp only [put_mk, List.set_cons_succ, List.set_cons_zero]
                refine wpAnyH_take (i := 9) (oi := ?o8x9) (v := ?v8x9) ?hi8x9 (by kernel_rfl) ?hf8x9 ?hr8x9 (fun _ _ _ h => h) ?hy8x9 (by assumption) ?rest8x9
                case hi8x9 => (simp only [List.getElem?_toArray, List.getElem?_cons_succ, List.getElem?_cons_zero]; exact rfl)
                case hf8x9 => kernel_rfl
                case hr8x9 => kernel_rfl
                case hy8x9 => (refine Or.inl ⟨by rfl, ?_⟩; intro w hSw; (try dsimp only at hSw); go_simp; try with_reducible rfl)
                simp only [put_mk, List.set_cons_succ, List.set_cons_zero]
                refine wpAnyH_take (i := 10) (oi := ?o8x10) (v := ?v8x10) ?hi8x10 (by kernel_rfl) ?hf8x10 ?hr8x10 (fun _ _ _ h => h) ?hy8x10 (by assumption) ?rest8x10
                case hi8x10 => (simp only [List.getElem?_toArray, List.getElem?_cons_succ, List.getElem?_cons_zero]; exact rfl)
                case hf8x10 => kernel_rfl
                case hr8x10 => kernel_rfl
                case hy8x10 => (refine Or.inl ⟨by rfl, ?_⟩; intro w hSw; (try dsimp only at hSw); go_simp; try with_reducible rfl)
                simp only [put_mk, List.set_cons_succ, List.set_cons_zero]
                refine wpAnyH_take (i := 11) (oi := ?o8x11) (v := ?v8x11) ?hi8x11 (by kernel_rfl) ?hf8x11 ?hr8x11 (fun _ _ _ h => h) ?hy8x11 (by assumption) ?rest8x11
                case hi8x11 => (simp only [List.getElem?_toArray, List.getElem?_cons_succ, List.getElem?_cons_zero]; exact rfl)
                case hf8x11 => kernel_rfl
                case hr8x11 => kernel_rfl
                case hy8x11 => (refine Or.inl ⟨by rfl, ?_⟩; intro w hSw; (try dsimp only at hSw); go_simp; try with_reducible rfl)
                simp only [put_mk, List.set_cons_succ, List.set_cons_zero]
                refine wpAnyH_take (i := 12) (oi := ?o8x12) (v := ?v8x12) ?hi8x12 (by kernel_rfl) ?hf8x12 ?hr8x12 (fun _ _ _ h => h) ?hy8x12 (by assumption) ?rest8x12
                case hi8x12 => (simp only [List.getElem?_toArray, List.getElem?_cons_succ, List.getElem?_cons_zero]; exact rfl)
                case hf8x12 => kernel_rfl
                case hr8x12 => kernel_rfl
                case hy8x12 => (refine Or.inl ⟨by rfl, ?_⟩; intro w hSw; (try dsimp only at hSw); go_simp; try with_reducible rfl)
                simp only [put_mk, List.set_cons_succ, List.set_cons_zero]
                refine wpAnyH_take (i := 13) (oi := ?o8x13) (v := ?v8x13) ?hi8x13 (by kernel_rfl) ?hf8x13 ?hr8x13 (fun _ _ _ h => h) ?hy8x13 (by assumption) ?rest8x13
                case hi8x13 => (simp only [List.getElem?_toArray, List.getElem?_cons_succ, List.getElem?_cons_zero]; exact rfl)
                case hf8x13 => kernel_rfl
                case hr8x13 => kernel_rfl
                case hy8x13 => (refine Or.inl ⟨by rfl, ?_⟩; intro w hSw; (try dsimp only at hSw); go_simp; try with_reducible rfl)
                simp only [put_mk, List.set_cons_succ, List.set_cons_zero]
                refine wpAnyH_take (i := 14) (oi := ?o8x14) (v := ?v8x14) ?hi8x14 (by kernel_rfl) ?hf8x14 ?hr8x14 (fun _ _ _ h => h) ?hy8x14 (by assumption) ?rest8x14
                case hi8x14 => (simp only [List.getElem?_toArray, List.getElem?_cons_succ, List.getElem?_cons_zero]; exact rfl)
                case hf8x14 => kernel_rfl
                case hr8x14 => kernel_rfl
                case hy8x14 => (refine Or.inl ⟨by rfl, ?_⟩; intro w hSw; (try dsimp only at hSw); go_simp; try with_reducible rfl)
                simp only [put_mk, List.set_cons_succ, List.set_cons_zero]
                refine wpAnyH_take (i := 15) (oi := ?o8x15) (v := ?v8x15) ?hi8x15 (by kernel_rfl) ?hf8x15 ?hr8x15 (fun _ _ _ h => h) ?hy8x15 (by assumption) ?rest8x15
                case hi8x15 => (simp only [List.getElem?_toArray, List.getElem?_cons_succ, List.getElem?_cons_zero]; exact rfl)
                case hf8x15 => kernel_rfl
                case hr8x15 => kernel_rfl
                case hy8x15 => (refine Or.inl ⟨by rfl, ?_⟩; intro w hSw; (try dsimp only at hSw); go_simp; try with_reducible rfl)
                simp only [put_mk, List.set_cons_succ, List.set_cons_zero]
                refine wpAnyH_take (i := 16) (oi := ?o8x16) (v := ?v8x16) ?hi8x16 (by kernel_rfl) ?hf8x16 ?hr8x16 (fun _ _ _ h => h) ?hy8x16 (by assumption) ?rest8x16
                case hi8x16 => (simp only [List.getElem?_toArray, List.getElem?_cons_succ, List.getElem?_cons_zero]; exact rfl)
                case hf8x16 => kernel_rfl
                case hr8x16 => kernel_rfl
                case hy8x16 => (refine Or.inl ⟨by rfl, ?_⟩; intro w hSw; (try dsimp only at hSw); go_simp; try with_reducible rfl)
                simp only [put_mk, List.set_cons_succ, List.set_cons_zero]
                refine wpAnyH_ready (rs := [17]) (by kernel_rfl) (by simp) ?_
                refine AllReadyH.cons (o := ?o8x17) ?hi8x17 (fun K hK => ?_) AllReadyH.nil
                case hi8x17 => (simp only [List.getElem?_toArray, List.getElem?_cons_succ, List.getElem?_cons_zero]; exact rfl)
                go_simp
                refine ((HSk _).out).mono ?_
                rintro e w6 ⟨rfl, hb6⟩
                refine hK.out _ _ ?_ (fun hHeld => ?_)
                · (repeat (first | exact Ext.refl _ | assumption | refine Ext.setCell ?_ (by first | (simp; done) | (simp; omega)) _ | refine Ext.drewN ?_ _ | refine Ext.alloc ?_ _ | refine Ext.drew ?_ | refine Ext.trans ?_ (by assumption)))
                clear hK K
                refine wpAnyH_take (i := 18) (oi := ?o8x18) (v := ?v8x18) ?hi8x18 (by kernel_rfl) ?hf8x18 ?hr8x18 (fun _ _ _ h => h) ?hy8x18 (by assumption) ?rest8x18
                case hi8x18 => (simp only [List.getElem?_toArray, List.getElem?_cons_succ, List.getElem?_cons_zero]; exact rfl)
                case hf8x18 => kernel_rfl
                case hr8x18 => kernel_rfl
                case hy8x18 => (refine Or.inl ⟨by rfl, ?_⟩; intro w hSw; (try dsimp only at hSw); go_simp; try with_reducible rfl)
                simp only [put_mk, List.set_cons_succ, List.set_cons_zero]
                refine wpAnyH_take (i := 19) (oi := ?o8x19) (v := ?v8x19) ?hi8x19 (by kernel_rfl) ?hf8x19 ?hr8x19 (fun _ _ _ h => h) ?hy8x19 (by assumption) ?rest8x19
                case hi8x19 => (simp only [List.getElem?_toArray, List.getElem?_cons_succ, List.getElem?_cons_zero]; exact rfl)
                case hf8x19 => kernel_rfl
                case hr8x19 => kernel_rfl
                case hy8x19 => (refine Or.inl ⟨by rfl, ?_⟩; intro w hSw; (try dsimp only at hSw); go_simp; try with_reducible rfl)
                simp only [put_mk, List.set_cons_succ, List.set_cons_zero]
                refine wpAnyH_done (by kernel_rfl) ?_ _
                refine NoPanic.normal ?_
                go_wp2_with fail
                go_roundw
                case rel => exact ⟨i + 1, by omega, congrArg (Value.int .i64) (by omega), by rw [Hnx2.out, hv.out], (by repeat (first | exact Ext.refl _ | assumption | refine Ext.setCell ?_ (by first | (simp; done) | (simp; omega)) _ | refine Ext.drewN ?_ _ | refine Ext.alloc ?_ _ | refine Ext.drew ?_ | refine Ext.trans ?_ (by assumption)))⟩
                case measure => simp [intOf]; omega
            · rw [hoi] at a0
              have hv : Hid (nx = (k2 : Int)) := by show nx = _; rw [Hst.out, if_neg (by rw [hoi]; rintro ⟨h, _⟩; cases h)]
              clear Hst hoi HCl HSt
              go_upto_region 9 with fail
              refine wp_region_noPanic ?_
              refine wp_region_held_drew (S := fun w' => Ext wr w') (by kernel_rfl) ?_ (fun hHeld => ?_)
              · (repeat (first | exact Ext.refl _ | assumption | refine Ext.setCell ?_ (by first | (simp; done) | (simp; omega)) _ | refine Ext.drewN ?_ _ | refine Ext.alloc ?_ _ | refine Ext.drew ?_ | refine Ext.trans ?_ (by assumption)))
              refine wpAnyH_take (i := 0) (oi := ?o9x0) (v := ?v9x0) ?hi9x0 (by kernel_rfl) ?hf9x0 ?hr9x0 (fun _ _ _ h => h) ?hy9x0 (by assumption) ?rest9x0
              case hi9x0 => (simp only [List.getElem?_toArray, List.getElem?_cons_zero]; exact rfl)
              case hf9x0 => kernel_rfl
              case hr9x0 => kernel_rfl
              case hy9x0 => (refine Or.inl ⟨by rfl, ?_⟩; intro w hSw; (try dsimp only at hSw); go_simp; try with_reducible rfl)
              simp only [put_mk, List.set_cons_succ, List.set_cons_zero]
              refine wpAnyH_take (i := 1) (oi := ?o9x1) (v := ?v9x1) ?hi9x1 (by kernel_rfl) ?hf9x1 ?hr9x1 (fun _ _ _ h => h) ?hy9x1 (by assumption) ?rest9x1
              case hi9x1 => (simp only [List.getElem?_toArray, List.getElem?_cons_succ, List.getElem?_cons_zero]; exact rfl)
              case hf9x1 => kernel_rfl
              case hr9x1 => kernel_rfl
              case hy9x1 => (refine Or.inl ⟨by rfl, ?_⟩; intro w hSw; (try dsimp only at hSw); go_simp; try with_reducible rfl)
              simp only [put_mk, List.set_cons_succ, List.set_cons_zero]
              refine wpAnyH_take (i := 2) (oi := ?o9x2) (v := ?v9x2) ?hi9x2 (by kernel_rfl) ?hf9x2 ?hr9x2 (fun _ _ _ h => h) ?hy9x2 (by assumption) ?rest9x2
              case hi9x2 => (simp only [List.getElem?_toArray, List.getElem?_cons_succ, List.getElem?_cons_zero]; exact rfl)
              case hf9x2 => kernel_rfl
              case hr9x2 => kernel_rfl
              case hy9x2 => (refine Or.inl ⟨by rfl, ?_⟩; intro w hSw; (try dsimp only at hSw); go_simp; try with_reducible rfl)
              simp only [put_mk, List.set_cons_succ, List.set_cons_zero]
              refine wpAnyH_take (i := 3) (oi := ?o9x3) (v := ?v9x3) ?hi9x3 (by kernel_rfl) ?hf9x3 ?hr9x3 (fun _ _ _ h => h) ?hy9x3 (by assumption) ?rest9x3
              case hi9x3 => (simp only [List.getElem?_toArray, List.getElem?_cons_succ, List.getElem?_cons_zero]; exact rfl)
              case hf9x3 => kernel_rfl
              case hr9x3 => kernel_rfl
              case hy9x3 => (refine Or.inl ⟨by rfl, ?_⟩; intro w hSw; (try dsimp only at hSw); go_simp; try with_reducible rfl)
              simp only [put_mk, List.set_cons_succ, List.set_cons_zero]
              refine wpAnyH_take (i := 4) (oi := ?o9x4) (v := ?v9x4) ?hi9x4 (by kernel_rfl) ?hf9x4 ?hr9x4 (fun _ _ _ h => h) ?hy9x4 (by assumption) ?rest9x4
              case hi9x4 => (simp only [List.getElem?_toArray, List.getElem?_cons_succ, List.getElem?_cons_zero]; exact rfl)
              case hf9x4 => kernel_rfl
              case hr9x4 => kernel_rfl
              case hy9x4 => (refine Or.inl ⟨by rfl, ?_⟩; intro w hSw; (try dsimp only at hSw); go_simp; try with_reducible rfl)
              simp only [put_mk, List.set_cons_succ, List.set_cons_zero]
              refine wpAnyH_take (i := 5) (oi := ?o9x5) (v := ?v9x5) ?hi9x5 (by kernel_rfl) ?hf9x5 ?hr9x5 (fun _ _ _ h => h) ?hy9x5 (by assumption) ?rest9x5
              case hi9x5 => (simp only [List.getElem?_toArray, List.getElem?_cons_succ, List.getElem?_cons_zero]; exact rfl)
              case hf9x5 => kernel_rfl
              case hr9x5 => kernel_rfl
              case hy9x5 => (refine Or.inl ⟨by rfl, ?_⟩; intro w hSw; (try dsimp only at hSw); go_simp; try with_reducible rfl)
              simp only [put_mk, List.set_cons_succ, List.set_cons_zero]
              refine wpAnyH_take (i := 6) (oi := ?o9x6) (v := undef) ?hi9x6 (by kernel_rfl) ?hf9x6 ?hr9x6 (fun _ _ _ h => h) ?hy9x6 (by assumption) ?rest9x6
              case hi9x6 => (simp only [List.getElem?_toArray, List.getElem?_cons_succ, List.getElem?_cons_zero]; exact rfl)
              case hf9x6 => kernel_rfl
              case hr9x6 => kernel_rfl
              case hy9x6 => exact Or.inr ⟨by rfl, rfl⟩
              simp only [put_mk, List.set_cons_succ, List.set_cons_zero]
              refine wpAnyH_take (i := 7) (oi := ?o9x7) (v := undef) ?hi9x7 (by kernel_rfl) ?hf9x7 ?hr9x7 (fun _ _ _ h => h) ?hy9x7 (by assumption) ?rest9x7
              case hi9x7 => (simp only [List.getElem?_toArray, List.getElem?_cons_succ, List.getElem?_cons_zero]; exact rfl)
              case hf9x7 => kernel_rfl
              case hr9x7 => kernel_rfl
              case hy9x7 => exact Or.inr ⟨by rfl, rfl⟩
              simp only [put_mk, List.set_cons_succ, List.set_cons_zero]
              refine wpAnyH_take (i := 8) (oi := ?o9x8) (v := undef) ?hi9x8 (by kernel_rfl) ?hf9x8 ?hr9x8 (fun _ _ _ h => h) ?hy9x8 (by assumption) ?rest9x8
              case hi9x8 => (simp only [List.getElem?_toArray, List.getElem?_cons_succ, List.getElem?_cons_zero]; exact rfl)
              case hf9x8 => kernel_rfl
              case hr9x8 => kernel_rfl
              case hy9x8 => exact Or.inr ⟨by rfl, rfl⟩
              simp only [put_mk, List.set_cons_succ, List.set_cons_zero]
              refine wpAnyH_take (i := 9) (oi := ?o9x9) (v := undef) ?hi9x9 (by kernel_rfl) ?hf9x9 ?hr9x9 (fun _ _ _ h => h) ?hy9x9 (by assumption) ?rest9x9
              case hi9x9 => (simp only [List.getElem?_toArray, List.getElem?_cons_succ, List.getElem?_cons_zero]; exact rfl)
              case hf9x9 => kernel_rfl
              case hr9x9 => kernel_rfl
              case hy9x9 => exact Or.inr ⟨by rfl, rfl⟩
              simp only [put_mk, List.set_cons_succ, List.set_cons_zero]
              refine wpAnyH_take (i := 10) (oi := ?o9x10) (v := undef) ?hi9x10 (by kernel_rfl) ?hf9x10 ?hr9x10 (fun _ _ _ h => h) ?hy9x10 (by assumption) ?rest9x10
              case hi9x10 => (simp only [List.getElem?_toArray, List.getElem?_cons_succ, List.getElem?_cons_zero]; exact rfl)
              case hf9x10 => kernel_rfl
              case hr9x10 => kernel_rfl
              case hy9x10 => exact Or.inr ⟨by rfl, rfl⟩
              simp only [put_mk, List.set_cons_succ, List.set_cons_zero]
              refine wpAnyH_take (i := 11) (oi := ?o9x11) (v := undef) ?hi9x11 (by kernel_rfl) ?hf9x11 ?hr9x11 (fun _ _ _ h => h) ?hy9x11 (by assumption) ?rest9x11
              case hi9x11 => (simp only [List.getElem?_toArray, List.getElem?_cons_succ, List.getElem?_cons_zero]; exact rfl)
              case hf9x11 => kernel_rfl
              case hr9x11 => kernel_rfl
              case hy9x11 => exact Or.inr ⟨by rfl, rfl⟩
              simp only [put_mk, List.set_cons_succ, List.set_cons_zero]
              refine wpAnyH_take (i := 12) (oi := ?o9x12) (v := undef) ?hi9x12 (by kernel_rfl) ?hf9x12 ?hr9x12 (fun _ _ _ h => h) ?hy9x12 (by assumption) ?rest9x12
              case hi9x12 => (simp only [List.getElem?_toArray, List.getElem?_cons_succ, List.getElem?_cons_zero]; exact rfl)
              case hf9x12 => kernel_rfl
              case hr9x12 => kernel_rfl
              case hy9x12 => exact Or.inr ⟨by rfl, rfl⟩
              simp only [put_mk, List.set_cons_succ, List.set_cons_zero]
              refine wpAnyH_take (i := 13) (oi := ?o9x13) (v := undef) ?hi9x13 (by kernel_rfl) ?hf9x13 ?hr9x13 (fun _ _ _ h => h) ?hy9x13 (by assumption) ?rest9x13
              case hi9x13 => (simp only [List.getElem?_toArray, List.getElem?_cons_succ, List.getElem?_cons_zero]; exact rfl)
              case hf9x13 => kernel_rfl
              case hr9x13 => kernel_rfl
              case hy9x13 => exact Or.inr ⟨by rfl, rfl⟩
              simp only [put_mk, List.set_cons_succ, List.set_cons_zero]
              refine wpAnyH_take (i := 14) (oi := ?o9x14) (v := undef) ?hi9x14 (by kernel_rfl) ?hf9x14 ?hr9x14 (fun _ _ _ h => h) ?hy9x14 (by assumption) ?rest9x14
              case hi9x14 => (simp only [List.getElem?_toArray, List.getElem?_cons_succ, List.getElem?_cons_zero]; exact rfl)
              case hf9x14 => kernel_rfl
              case hr9x14 => kernel_rfl
              case hy9x14 => exact Or.inr ⟨by rfl, rfl⟩
              simp only [put_mk, List.set_cons_succ, List.set_cons_zero]
              refine wpAnyH_take (i := 15) (oi := ?o9x15) (v := undef) ?hi9x15 (by kernel_rfl) ?hf9x15 ?hr9x15 (fun _ _ _ h => h) ?hy9x15 (by assumption) ?rest9x15
              case hi9x15 => (simp only [List.getElem?_toArray, List.getElem?_cons_succ, List.getElem?_cons_zero]; exact rfl)
              case hf9x15 => kernel_rfl
              case hr9x15 => kernel_rfl
              case hy9x15 => exact Or.inr ⟨by rfl, rfl⟩
              simp only [put_mk, List.set_cons_succ, List.set_cons_zero]
              refine wpAnyH_take (i := 16) (oi := ?o9x16) (v := undef) ?hi9x16 (by kernel_rfl) ?hf9x16 ?hr9x16 (fun _ _ _ h => h) ?hy9x16 (by assumption) ?rest9x16
              case hi9x16 => (simp only [List.getElem?_toArray, List.getElem?_cons_succ, List.getElem?_cons_zero]; exact rfl)
              case hf9x16 => kernel_rfl
              case hr9x16 => kernel_rfl
              case hy9x16 => exact Or.inr ⟨by rfl, rfl⟩
              simp only [put_mk, List.set_cons_succ, List.set_cons_zero]
              refine wpAnyH_take (i := 17) (oi := ?o9x17) (v := undef) ?hi9x17 (by kernel_rfl) ?hf9x17 ?hr9x17 (fun _ _ _ h => h) ?hy9x17 (by assumption) ?rest9x17
              case hi9x17 => (simp only [List.getElem?_toArray, List.getElem?_cons_succ, List.getElem?_cons_zero]; exact rfl)
              case hf9x17 => kernel_rfl
              case hr9x17 => kernel_rfl
              case hy9x17 => exact Or.inr ⟨by rfl, rfl⟩
              simp only [put_mk, List.set_cons_succ, List.set_cons_zero]
              refine wpAnyH_take (i := 18) (oi := ?o9x18) (v := undef) ?hi9x18 (by kernel_rfl) ?hf9x18 ?hr9x18 (fun _ _ _ h => h) ?hy9x18 (by assumption) ?rest9x18
              case hi9x18 => (simp only [List.getElem?_toArray, List.getElem?_cons_succ, List.getElem?_cons_zero]; exact rfl)
              case hf9x18 => kernel_rfl
              case hr9x18 => kernel_rfl
              case hy9x18 => exact Or.inr ⟨by rfl, rfl⟩
              simp only [put_mk, List.set_cons_succ, List.set_cons_zero]
              refine wpAnyH_take (i := 19) (oi := ?o9x19) (v := ?v9x19) ?hi9x19 (by kernel_rfl) ?hf9x19 ?hr9x19 (fun _ _ _ h => h) ?hy9x19 (by assumption) ?rest9x19
              case hi9x19 => (simp only [List.getElem?_toArray, List.getElem?_cons_succ, List.getElem?_cons_zero]; exact rfl)
              case hf9x19 => kernel_rfl
              case hr9x19 => kernel_rfl
              case hy9x19 => (refine Or.inl ⟨by rfl, ?_⟩; intro w hSw; (try dsimp only at hSw); go_simp; try with_reducible rfl)
              simp only [put_mk, List.set_cons_succ, List.set_cons_zero]
              refine wpAnyH_done (by kernel_rfl) ?_ _
              refine NoPanic.normal ?_
              go_wp2_with fail
              go_roundw
              case rel => exact ⟨i + 1, by omega, congrArg (Value.int .i64) (by omega), by rw [Hnx2.out, hv.out], (by repeat (first | exact Ext.refl _ | assumption | refine Ext.setCell ?_ (by first | (simp; done) | (simp; omega)) _ | refine Ext.drewN ?_ _ | refine Ext.alloc ?_ _ | refine Ext.drew ?_ | refine Ext.trans ?_ (by assumption)))⟩
              case measure => simp [intOf]; omega
        · obtain rfl : m = i := by omega
          rw [Hpk.out]
          have A2 := hA.ext hxi
          have B2 := hB.ext hxi
          have km : k < m := by have := Hm.out; omega
          have e0 : wr.cell? ⟨ga, k, none⟩ = some (.bool (outT p o t k)) := by rw [A2.cell]; exact bools_get _ km
          have e1 := A2.frozen k
          have A3 := Bk.set A2 k (.bool true)
          rw [bools_set] at A3
          have B3 := B2.far (p := ⟨ga, k, none⟩) (Ne.symm hne) (.bool true)
          have e2 : (wr.setCell ⟨ga, k, none⟩ (.bool true)).cell? ⟨gb, k, none⟩ = some (.bool (stayT l p o t k)) := by rw [B3.cell]; exact bools_get _ km
          have e3 := B3.frozen k
          have A4 := A3.far (p := ⟨gb, k, none⟩) hne (.bool true)
          have B4 := Bk.set B3 k (.bool true)
          rw [bools_set] at B4
          have hx4 : Ext w ((wr.setCell ⟨ga, k, none⟩ (.bool true)).setCell ⟨gb, k, none⟩ (.bool true)) := ((hx.trans hxi).setCell hg1 _).setCell hg2 _
          have k0 : (0 : Int) ≤ k := by omega
          have k1 : (k : Int) < m := by omega
          clear hA hB hx hxi A2 B2 A3 B3 HSt Hpk
          go_upto_region 13 with fail
          clear e0 e1 e2 e3
          generalize (wr.setCell ⟨ga, k, none⟩ (.bool true)).setCell ⟨gb, k, none⟩ (.bool true) = w4 at *
          go_wp2_with fail
          go_loopw [57] (fun s57 wr => ∃ j : Nat, j ≤ m ∧ s57 = .int .i64 j ∧ Bk wr ga 4 (bools m (upB (outT p o t) k true)) ∧ Bk wr gb 4 (bools m (upB (stayT l p o t) k (!anyC l p o t k j))) ∧ Ext w wr) (fun s57 _ => m - (intOf s57).toNat)
          case atStart => exact ⟨0, Nat.zero_le _, rfl, A4, B4, hx4⟩
          case round =>
            clear A4 B4 hx4
            obtain ⟨j, hj, rfl, hA, hB, hx⟩ := hrel
            by_cases hjm : j < m
            · have j0 : (0 : Int) ≤ j := by omega
              have j1 : (j : Int) < m := by omega
              have Hsu := hidA (anyC_succ l p o t k j)
              generalize hnx : anyC l p o t k (j + 1) = nx at *
              have Hnx := hidA hnx
              clear hnx
              by_cases hjk : j = k
              · subst hjk
                have hv : Hid (nx = anyC l p o t j j) := by show nx = _; rw [Hsu.out]; simp
                clear Hsu HCl HE
                go_upto_region 16 with fail
                refine wp_region_noPanic ?_
                refine wp_region_held_drew (S := fun w' => Ext wr w') (by kernel_rfl) ?_ (fun hHeld => ?_)
                · (repeat (first | exact Ext.refl _ | assumption | refine Ext.setCell ?_ (by first | (simp; done) | (simp; omega)) _ | refine Ext.drewN ?_ _ | refine Ext.alloc ?_ _ | refine Ext.drew ?_ | refine Ext.trans ?_ (by assumption)))
                refine wpAnyH_take (i := 0) (oi := ?o3x0) (v := ?v3x0) ?hi3x0 (by kernel_rfl) ?hf3x0 ?hr3x0 (fun _ _ _ h => h) ?hy3x0 (by assumption) ?rest3x0
                case hi3x0 => (simp only [List.getElem?_toArray, List.getElem?_cons_zero]; exact rfl)
                case hf3x0 => kernel_rfl
                case hr3x0 => kernel_rfl
                case hy3x0 => (refine Or.inl ⟨by rfl, ?_⟩; intro w hSw; (try dsimp only at hSw); go_simp; try with_reducible rfl)
                simp only [put_mk, List.set_cons_succ, List.set_cons_zero]
                refine wpAnyH_take (i := 1) (oi := ?o3x1) (v := ?v3x1) ?hi3x1 (by kernel_rfl) ?hf3x1 ?hr3x1 (fun _ _ _ h => h) ?hy3x1 (by assumption) ?rest3x1
                case hi3x1 => (simp only [List.getElem?_toArray, List.getElem?_cons_succ, List.getElem?_cons_zero]; exact rfl)
                case hf3x1 => kernel_rfl
                case hr3x1 => kernel_rfl
                case hy3x1 => (refine Or.inl ⟨by rfl, ?_⟩; intro w hSw; (try dsimp only at hSw); go_simp; try with_reducible rfl)
                simp only [put_mk, List.set_cons_succ, List.set_cons_zero]
                refine wpAnyH_take (i := 2) (oi := ?o3x2) (v := ?v3x2) ?hi3x2 (by kernel_rfl) ?hf3x2 ?hr3x2 (fun _ _ _ h => h) ?hy3x2 (by assumption) ?rest3x2
                case hi3x2 => (simp only [List.getElem?_toArray, List.getElem?_cons_succ, List.getElem?_cons_zero]; exact rfl)
                case hf3x2 => kernel_rfl
                case hr3x2 => kernel_rfl
                case hy3x2 => (refine Or.inl ⟨by rfl, ?_⟩; intro w hSw; (try dsimp only at hSw); go_simp; try with_reducible rfl)
                simp only [put_mk, List.set_cons_succ, List.set_cons_zero]
                refine wpAnyH_take (i := 3) (oi := ?o3x3) (v := ?v3x3) ?hi3x3 (by kernel_rfl) ?hf3x3 ?hr3x3 (fun _ _ _ h => h) ?hy3x3 (by assumption) ?rest3x3
                case hi3x3 => (simp only [List.getElem?_toArray, List.getElem?_cons_succ, List.getElem?_cons_zero]; exact rfl)
                case hf3x3 => kernel_rfl
                case hr3x3 => kernel_rfl
                case hy3x3 => (refine Or.inl ⟨by rfl, ?_⟩; intro w hSw; (try dsimp only at hSw); go_simp; try with_reducible rfl)
                simp only [put_mk, List.set_cons_succ, List.set_cons_zero]
                refine wpAnyH_take (i := 4) (oi := ?o3x4) (v := undef) ?hi3x4 (by kernel_rfl) ?hf3x4 ?hr3x4 (fun _ _ _ h => h) ?hy3x4 (by assumption) ?rest3x4
                case hi3x4 => (simp only [List.getElem?_toArray, List.getElem?_cons_succ, List.getElem?_cons_zero]; exact rfl)
                case hf3x4 => kernel_rfl
                case hr3x4 => kernel_rfl
                case hy3x4 => exact Or.inr ⟨by rfl, rfl⟩
                simp only [put_mk, List.set_cons_succ, List.set_cons_zero]
                refine wpAnyH_take (i := 5) (oi := ?o3x5) (v := undef) ?hi3x5 (by kernel_rfl) ?hf3x5 ?hr3x5 (fun _ _ _ h => h) ?hy3x5 (by assumption) ?rest3x5
                case hi3x5 => (simp only [List.getElem?_toArray, List.getElem?_cons_succ, List.getElem?_cons_zero]; exact rfl)
                case hf3x5 => kernel_rfl
                case hr3x5 => kernel_rfl
                case hy3x5 => exact Or.inr ⟨by rfl, rfl⟩
                simp only [put_mk, List.set_cons_succ, List.set_cons_zero]
                refine wpAnyH_take (i := 6) (oi := ?o3x6) (v := undef) ?hi3x6 (by kernel_rfl) ?hf3x6 ?hr3x6 (fun _ _ _ h => h) ?hy3x6 (by assumption) ?rest3x6
                case hi3x6 => (simp only [List.getElem?_toArray, List.getElem?_cons_succ, List.getElem?_cons_zero]; exact rfl)
                case hf3x6 => kernel_rfl
                case hr3x6 => kernel_rfl
                case hy3x6 => exact Or.inr ⟨by rfl, rfl⟩
                simp only [put_mk, List.set_cons_succ, List.set_cons_zero]
                refine wpAnyH_take (i := 7) (oi := ?o3x7) (v := undef) ?hi3x7 (by kernel_rfl) ?hf3x7 ?hr3x7 (fun _ _ _ h => h) ?hy3x7 (by assumption) ?rest3x7
                case hi3x7 => (simp only [List.getElem?_toArray, List.getElem?_cons_succ, List.getElem?_cons_zero]; exact rfl)
                case hf3x7 => kernel_rfl
                case hr3x7 => kernel_rfl
                case hy3x7 => exact Or.inr ⟨by rfl, rfl⟩
                simp only [put_mk, List.set_cons_succ, List.set_cons_zero]
                refine wpAnyH_take (i := 8) (oi := ?o3x8) (v := ?v3x8) ?hi3x8 (by kernel_rfl) ?hf3x8 ?hr3x8 (fun _ _ _ h => h) ?hy3x8 (by assumption) ?rest3x8
                case hi3x8 => (simp only [List.getElem?_toArray, List.getElem?_cons_succ, List.getElem?_cons_zero]; exact rfl)
                case hf3x8 => kernel_rfl
                case hr3x8 => kernel_rfl
                case hy3x8 => (refine Or.inl ⟨by rfl, ?_⟩; intro w hSw; (try dsimp only at hSw); go_simp; try with_reducible rfl)
                simp only [put_mk, List.set_cons_succ, List.set_cons_zero]
                refine wpAnyH_take (i := 9) (oi := ?o3x9) (v := ?v3x9) ?hi3x9 (by kernel_rfl) ?hf3x9 ?hr3x9 (fun _ _ _ h => h) ?hy3x9 (by assumption) ?rest3x9
                case hi3x9 => (simp only [List.getElem?_toArray, List.getElem?_cons_succ, List.getElem?_cons_zero]; exact rfl)
                case hf3x9 => kernel_rfl
                case hr3x9 => kernel_rfl
                case hy3x9 => (refine Or.inl ⟨by rfl, ?_⟩; intro w hSw; (try dsimp only at hSw); go_simp; try with_reducible rfl)
                simp only [put_mk, List.set_cons_succ, List.set_cons_zero]
                refine wpAnyH_take (i := 10) (oi := ?o3x10) (v := undef) ?hi3x10 (by kernel_rfl) ?hf3x10 ?hr3x10 (fun _ _ _ h => h) ?hy3x10 (by assumption) ?rest3x10
                case hi3x10 => (simp only [List.getElem?_toArray, List.getElem?_cons_succ, List.getElem?_cons_zero]; exact rfl)
                case hf3x10 => kernel_rfl
                case hr3x10 => kernel_rfl
                case hy3x10 => exact Or.inr ⟨by rfl, rfl⟩
                simp only [put_mk, List.set_cons_succ, List.set_cons_zero]
                refine wpAnyH_take (i := 11) (oi := ?o3x11) (v := undef) ?hi3x11 (by kernel_rfl) ?hf3x11 ?hr3x11 (fun _ _ _ h => h) ?hy3x11 (by assumption) ?rest3x11
                case hi3x11 => (simp only [List.getElem?_toArray, List.getElem?_cons_succ, List.getElem?_cons_zero]; exact rfl)
                case hf3x11 => kernel_rfl
                case hr3x11 => kernel_rfl
                case hy3x11 => exact Or.inr ⟨by rfl, rfl⟩
                simp only [put_mk, List.set_cons_succ, List.set_cons_zero]
                refine wpAnyH_take (i := 12) (oi := ?o3x12) (v := undef) ?hi3x12 (by kernel_rfl) ?hf3x12 ?hr3x12 (fun _ _ _ h => h) ?hy3x12 (by assumption) ?rest3x12
                case hi3x12 => (simp only [List.getElem?_toArray, List.getElem?_cons_succ, List.getElem?_cons_zero]; exact rfl)
                case hf3x12 => kernel_rfl
                case hr3x12 => kernel_rfl
                case hy3x12 => exact Or.inr ⟨by rfl, rfl⟩
                simp only [put_mk, List.set_cons_succ, List.set_cons_zero]
                refine wpAnyH_take (i := 13) (oi := ?o3x13) (v := undef) ?hi3x13 (by kernel_rfl) ?hf3x13 ?hr3x13 (fun _ _ _ h => h) ?hy3x13 (by assumption) ?rest3x13
                case hi3x13 => (simp only [List.getElem?_toArray, List.getElem?_cons_succ, List.getElem?_cons_zero]; exact rfl)
                case hf3x13 => kernel_rfl
                case hr3x13 => kernel_rfl
                case hy3x13 => exact Or.inr ⟨by rfl, rfl⟩
                simp only [put_mk, List.set_cons_succ, List.set_cons_zero]
                refine wpAnyH_take (i := 14) (oi := ?o3x14) (v := undef) ?hi3x14 (by kernel_rfl) ?hf3x14 ?hr3x14 (fun _ _ _ h => h) ?hy3x14 (by assumption) ?rest3x14
                case hi3x14 => (simp only [List.getElem?_toArray, List.getElem?_cons_succ, List.getElem?_cons_zero]; exact rfl)
                case hf3x14 => kernel_rfl
                case hr3x14 => kernel_rfl
                case hy3x14 => exact Or.inr ⟨by rfl, rfl⟩
                simp only [put_mk, List.set_cons_succ, List.set_cons_zero]
                refine wpAnyH_take (i := 15) (oi := ?o3x15) (v := undef) ?hi3x15 (by kernel_rfl) ?hf3x15 ?hr3x15 (fun _ _ _ h => h) ?hy3x15 (by assumption) ?rest3x15
                case hi3x15 => (simp only [List.getElem?_toArray, List.getElem?_cons_succ, List.getElem?_cons_zero]; exact rfl)
                case hf3x15 => kernel_rfl
                case hr3x15 => kernel_rfl
                case hy3x15 => exact Or.inr ⟨by rfl, rfl⟩
                simp only [put_mk, List.set_cons_succ, List.set_cons_zero]
                refine wpAnyH_take (i := 16) (oi := ?o3x16) (v := undef) ?hi3x16 (by kernel_rfl) ?hf3x16 ?hr3x16 (fun _ _ _ h => h) ?hy3x16 (by assumption) ?rest3x16
                case hi3x16 => (simp only [List.getElem?_toArray, List.getElem?_cons_succ, List.getElem?_cons_zero]; exact rfl)
                case hf3x16 => kernel_rfl
                case hr3x16 => kernel_rfl
                case hy3x16 => exact Or.inr ⟨by rfl, rfl⟩
                simp only [put_mk, List.set_cons_succ, List.set_cons_zero]
                refine wpAnyH_take (i := 17) (oi := ?o3x17) (v := undef) ?hi3x17 (by kernel_rfl) ?hf3x17 ?hr3x17 (fun _ _ _ h => h) ?hy3x17 (by assumption) ?rest3x17
                case hi3x17 => (simp only [List.getElem?_toArray, List.getElem?_cons_succ, List.getElem?_cons_zero]; exact rfl)
                case hf3x17 => kernel_rfl
                case hr3x17 => kernel_rfl
                case hy3x17 => exact Or.inr ⟨by rfl, rfl⟩
                simp only [put_mk, List.set_cons_succ, List.set_cons_zero]
                refine wpAnyH_take (i := 18) (oi := ?o3x18) (v := undef) ?hi3x18 (by kernel_rfl) ?hf3x18 ?hr3x18 (fun _ _ _ h => h) ?hy3x18 (by assumption) ?rest3x18
                case hi3x18 => (simp only [List.getElem?_toArray, List.getElem?_cons_succ, List.getElem?_cons_zero]; exact rfl)
                case hf3x18 => kernel_rfl
                case hr3x18 => kernel_rfl
                case hy3x18 => exact Or.inr ⟨by rfl, rfl⟩
                simp only [put_mk, List.set_cons_succ, List.set_cons_zero]
                refine wpAnyH_take (i := 19) (oi := ?o3x19) (v := undef) ?hi3x19 (by kernel_rfl) ?hf3x19 ?hr3x19 (fun _ _ _ h => h) ?hy3x19 (by assumption) ?rest3x19
                case hi3x19 => (simp only [List.getElem?_toArray, List.getElem?_cons_succ, List.getElem?_cons_zero]; exact rfl)
                case hf3x19 => kernel_rfl
                case hr3x19 => kernel_rfl
                case hy3x19 => exact Or.inr ⟨by rfl, rfl⟩
                simp only [put_mk, List.set_cons_succ, List.set_cons_zero]
                refine wpAnyH_take (i := 20) (oi := ?o3x20) (v := ?v3x20) ?hi3x20 (by kernel_rfl) ?hf3x20 ?hr3x20 (fun _ _ _ h => h) ?hy3x20 (by assumption) ?rest3x20
                case hi3x20 => (simp only [List.getElem?_toArray, List.getElem?_cons_succ, List.getElem?_cons_zero]; exact rfl)
                case hf3x20 => kernel_rfl
                case hr3x20 => kernel_rfl
                case hy3x20 => (refine Or.inl ⟨by rfl, ?_⟩; intro w hSw; (try dsimp only at hSw); go_simp; try with_reducible rfl)
                simp only [put_mk, List.set_cons_succ, List.set_cons_zero]
                refine wpAnyH_done (by kernel_rfl) ?_ _
                refine NoPanic.normal ?_
                go_wp2_with fail
                go_roundw
                case rel => exact ⟨j + 1, by omega, congrArg (Value.int .i64) (by omega), hA.drew, by rw [Hnx.out, hv.out]; exact hB.drew, hx.drew⟩
                case measure => simp [intOf]; omega
              · have hjl : j < p.length := by have := Hm.out; omega
                have hjkI : ((j : Int) != (k : Int)) = true := bne_iff_ne.2 (by omega)
                have hsj : upB (stayT l p o t) k (!anyC l p o t k j) j = stayT l p o t j := by unfold upB; rw [if_neg hjk]
                have b0 : ∀ w', Ext wr w' → w'.cell? ⟨gb, j, none⟩ = some (.bool (stayT l p o t j)) := fun w' h => by rw [(hB.ext h).cell, ← hsj]; exact bools_get _ hjm
                have hdj : decide (j ≠ k) = true := by simp [hjk]
                rw [hdj, Bool.true_and] at Hsu
                clear hsj hdj
                cases hs : stayT l p o t j
                · rw [hs] at b0 Hsu
                  have hv : Hid (nx = anyC l p o t k j) := by show nx = _; rw [Hsu.out]; simp
                  clear Hsu HCl HE hs hjk
                  go_upto_region 16 with fail
                  refine wp_region_noPanic ?_
                  refine wp_region_held_drew (S := fun w' => Ext wr w') (by kernel_rfl) ?_ (fun hHeld => ?_)
                  · (repeat (first | exact Ext.refl _ | assumption | refine Ext.setCell ?_ (by first | (simp; done) | (simp; omega)) _ | refine Ext.drewN ?_ _ | refine Ext.alloc ?_ _ | refine Ext.drew ?_ | refine Ext.trans ?_ (by assumption)))
                  refine wpAnyH_take (i := 0) (oi := ?o4x0) (v := ?v4x0) ?hi4x0 (by kernel_rfl) ?hf4x0 ?hr4x0 (fun _ _ _ h => h) ?hy4x0 (by assumption) ?rest4x0
                  case hi4x0 => (simp only [List.getElem?_toArray, List.getElem?_cons_zero]; exact rfl)
                  case hf4x0 => kernel_rfl
                  case hr4x0 => kernel_rfl
                  case hy4x0 => (refine Or.inl ⟨by rfl, ?_⟩; intro w hSw; (try dsimp only at hSw); go_simp; try with_reducible rfl)
                  simp only [put_mk, List.set_cons_succ, List.set_cons_zero]
                  refine wpAnyH_take (i := 1) (oi := ?o4x1) (v := ?v4x1) ?hi4x1 (by kernel_rfl) ?hf4x1 ?hr4x1 (fun _ _ _ h => h) ?hy4x1 (by assumption) ?rest4x1
                  case hi4x1 => (simp only [List.getElem?_toArray, List.getElem?_cons_succ, List.getElem?_cons_zero]; exact rfl)
                  case hf4x1 => kernel_rfl
                  case hr4x1 => kernel_rfl
                  case hy4x1 => (refine Or.inl ⟨by rfl, ?_⟩; intro w hSw; (try dsimp only at hSw); go_simp; try with_reducible rfl)
                  simp only [put_mk, List.set_cons_succ, List.set_cons_zero]
                  refine wpAnyH_take (i := 2) (oi := ?o4x2) (v := ?v4x2) ?hi4x2 (by kernel_rfl) ?hf4x2 ?hr4x2 (fun _ _ _ h => h) ?hy4x2 (by assumption) ?rest4x2
                  case hi4x2 => (simp only [List.getElem?_toArray, List.getElem?_cons_succ, List.getElem?_cons_zero]; exact rfl)
                  case hf4x2 => kernel_rfl
                  case hr4x2 => kernel_rfl
                  case hy4x2 => (refine Or.inl ⟨by rfl, ?_⟩; intro w hSw; (try dsimp only at hSw); go_simp; try with_reducible rfl)
                  simp only [put_mk, List.set_cons_succ, List.set_cons_zero]
                  refine wpAnyH_take (i := 3) (oi := ?o4x3) (v := ?v4x3) ?hi4x3 (by kernel_rfl) ?hf4x3 ?hr4x3 (fun _ _ _ h => h) ?hy4x3 (by assumption) ?rest4x3
                  case hi4x3 => (simp only [List.getElem?_toArray, List.getElem?_cons_succ, List.getElem?_cons_zero]; exact rfl)
                  case hf4x3 => kernel_rfl
                  case hr4x3 => kernel_rfl
                  case hy4x3 => (refine Or.inl ⟨by rfl, ?_⟩; intro w hSw; (try dsimp only at hSw); go_simp; try with_reducible rfl)
                  simp only [put_mk, List.set_cons_succ, List.set_cons_zero]
                  refine wpAnyH_take (i := 4) (oi := ?o4x4) (v := ?v4x4) ?hi4x4 (by kernel_rfl) ?hf4x4 ?hr4x4 (fun _ _ _ h => h) ?hy4x4 (by assumption) ?rest4x4
                  case hi4x4 => (simp only [List.getElem?_toArray, List.getElem?_cons_succ, List.getElem?_cons_zero]; exact rfl)
                  case hf4x4 => kernel_rfl
                  case hr4x4 => kernel_rfl
                  case hy4x4 => (refine Or.inl ⟨by rfl, ?_⟩; intro w hSw; (try dsimp only at hSw); go_simp; try with_reducible rfl)
                  simp only [put_mk, List.set_cons_succ, List.set_cons_zero]
                  refine wpAnyH_take (i := 5) (oi := ?o4x5) (v := ?v4x5) ?hi4x5 (by kernel_rfl) ?hf4x5 ?hr4x5 (fun _ _ _ h => h) ?hy4x5 (by assumption) ?rest4x5
                  case hi4x5 => (simp only [List.getElem?_toArray, List.getElem?_cons_succ, List.getElem?_cons_zero]; exact rfl)
                  case hf4x5 => kernel_rfl
                  case hr4x5 => kernel_rfl
                  case hy4x5 => (refine Or.inl ⟨by rfl, ?_⟩; intro w hSw; (try dsimp only at hSw); go_simp; try with_reducible rfl)
                  simp only [put_mk, List.set_cons_succ, List.set_cons_zero]
                  refine wpAnyH_take (i := 6) (oi := ?o4x6) (v := ?v4x6) ?hi4x6 (by kernel_rfl) ?hf4x6 ?hr4x6 (fun _ _ _ h => h) ?hy4x6 (by assumption) ?rest4x6
                  case hi4x6 => (simp only [List.getElem?_toArray, List.getElem?_cons_succ, List.getElem?_cons_zero]; exact rfl)
                  case hf4x6 => kernel_rfl
                  case hr4x6 => kernel_rfl
                  case hy4x6 => (refine Or.inl ⟨by rfl, ?_⟩; intro w hSw; (try dsimp only at hSw); go_simp; try with_reducible rfl)
                  simp only [put_mk, List.set_cons_succ, List.set_cons_zero]
                  refine wpAnyH_take (i := 7) (oi := ?o4x7) (v := ?v4x7) ?hi4x7 (by kernel_rfl) ?hf4x7 ?hr4x7 (fun _ _ _ h => h) ?hy4x7 (by assumption) ?rest4x7
                  case hi4x7 => (simp only [List.getElem?_toArray, List.getElem?_cons_succ, List.getElem?_cons_zero]; exact rfl)
                  case hf4x7 => kernel_rfl
                  case hr4x7 => kernel_rfl
                  case hy4x7 => (refine Or.inl ⟨by rfl, ?_⟩; intro w hSw; (try dsimp only at hSw); go_simp; try with_reducible rfl)
                  simp only [put_mk, List.set_cons_succ, List.set_cons_zero]
                  refine wpAnyH_take (i := 8) (oi := ?o4x8) (v := ?v4x8) ?hi4x8 (by kernel_rfl) ?hf4x8 ?hr4x8 (fun _ _ _ h => h) ?hy4x8 (by assumption) ?rest4x8
                  case hi4x8 => (simp only [List.getElem?_toArray, List.getElem?_cons_succ, List.getElem?_cons_zero]; exact rfl)
                  case hf4x8 => kernel_rfl
                  case hr4x8 => kernel_rfl
                  case hy4x8 => (refine Or.inl ⟨by rfl, ?_⟩; intro w hSw; (try dsimp only at hSw); go_simp; try with_reducible rfl)
                  simp only [put_mk, List.set_cons_succ, List.set_cons_zero]
                  refine wpAnyH_take (i := 9) (oi := ?o4x9) (v := ?v4x9) ?hi4x9 (by kernel_rfl) ?hf4x9 ?hr4x9 (fun _ _ _ h => h) ?hy4x9 (by assumption) ?rest4x9
                  case hi4x9 => (simp only [List.getElem?_toArray, List.getElem?_cons_succ, List.getElem?_cons_zero]; exact rfl)
                  case hf4x9 => kernel_rfl
                  case hr4x9 => kernel_rfl
                  case hy4x9 => (refine Or.inl ⟨by rfl, ?_⟩; intro w hSw; (try dsimp only at hSw); go_simp; try with_reducible rfl)
                  simp only [put_mk, List.set_cons_succ, List.set_cons_zero]
                  refine wpAnyH_take (i := 10) (oi := ?o4x10) (v := undef) ?hi4x10 (by kernel_rfl) ?hf4x10 ?hr4x10 (fun _ _ _ h => h) ?hy4x10 (by assumption) ?rest4x10
                  case hi4x10 => (simp only [List.getElem?_toArray, List.getElem?_cons_succ, List.getElem?_cons_zero]; exact rfl)
                  case hf4x10 => kernel_rfl
                  case hr4x10 => kernel_rfl
                  case hy4x10 => exact Or.inr ⟨by rfl, rfl⟩
                  simp only [put_mk, List.set_cons_succ, List.set_cons_zero]
                  refine wpAnyH_take (i := 11) (oi := ?o4x11) (v := undef) ?hi4x11 (by kernel_rfl) ?hf4x11 ?hr4x11 (fun _ _ _ h => h) ?hy4x11 (by assumption) ?rest4x11
                  case hi4x11 => (simp only [List.getElem?_toArray, List.getElem?_cons_succ, List.getElem?_cons_zero]; exact rfl)
                  case hf4x11 => kernel_rfl
                  case hr4x11 => kernel_rfl
                  case hy4x11 => exact Or.inr ⟨by rfl, rfl⟩
                  simp only [put_mk, List.set_cons_succ, List.set_cons_zero]
                  refine wpAnyH_take (i := 12) (oi := ?o4x12) (v := undef) ?hi4x12 (by kernel_rfl) ?hf4x12 ?hr4x12 (fun _ _ _ h => h) ?hy4x12 (by assumption) ?rest4x12
                  case hi4x12 => (simp only [List.getElem?_toArray, List.getElem?_cons_succ, List.getElem?_cons_zero]; exact rfl)
                  case hf4x12 => kernel_rfl
                  case hr4x12 => kernel_rfl
                  case hy4x12 => exact Or.inr ⟨by rfl, rfl⟩
                  simp only [put_mk, List.set_cons_succ, List.set_cons_zero]
                  refine wpAnyH_take (i := 13) (oi := ?o4x13) (v := undef) ?hi4x13 (by kernel_rfl) ?hf4x13 ?hr4x13 (fun _ _ _ h => h) ?hy4x13 (by assumption) ?rest4x13
                  case hi4x13 => (simp only [List.getElem?_toArray, List.getElem?_cons_succ, List.getElem?_cons_zero]; exact rfl)
                  case hf4x13 => kernel_rfl
                  case hr4x13 => kernel_rfl
                  case hy4x13 => exact Or.inr ⟨by rfl, rfl⟩
                  simp only [put_mk, List.set_cons_succ, List.set_cons_zero]
                  refine wpAnyH_take (i := 14) (oi := ?o4x14) (v := undef) ?hi4x14 (by kernel_rfl) ?hf4x14 ?hr4x14 (fun _ _ _ h => h) ?hy4x14 (by assumption) ?rest4x14
                  case hi4x14 => (simp only [List.getElem?_toArray, List.getElem?_cons_succ, List.getElem?_cons_zero]; exact rfl)
                  case hf4x14 => kernel_rfl
                  case hr4x14 => kernel_rfl
                  case hy4x14 => exact Or.inr ⟨by rfl, rfl⟩
                  simp only [put_mk, List.set_cons_succ, List.set_cons_zero]
                  refine wpAnyH_take (i := 15) (oi := ?o4x15) (v := undef) ?hi4x15 (by kernel_rfl) ?hf4x15 ?hr4x15 (fun _ _ _ h => h) ?hy4x15 (by assumption) ?rest4x15
                  case hi4x15 => (simp only [List.getElem?_toArray, List.getElem?_cons_succ, List.getElem?_cons_zero]; exact rfl)
                  case hf4x15 => kernel_rfl
                  case hr4x15 => kernel_rfl
                  case hy4x15 => exact Or.inr ⟨by rfl, rfl⟩
                  simp only [put_mk, List.set_cons_succ, List.set_cons_zero]
                  refine wpAnyH_take (i := 16) (oi := ?o4x16) (v := undef) ?hi4x16 (by kernel_rfl) ?hf4x16 ?hr4x16 (fun _ _ _ h => h) ?hy4x16 (by assumption) ?rest4x16
                  case hi4x16 => (simp only [List.getElem?_toArray, List.getElem?_cons_succ, List.getElem?_cons_zero]; exact rfl)
                  case hf4x16 => kernel_rfl
                  case hr4x16 => kernel_rfl
                  case hy4x16 => exact Or.inr ⟨by rfl, rfl⟩
                  simp only [put_mk, List.set_cons_succ, List.set_cons_zero]
                  refine wpAnyH_take (i := 17) (oi := ?o4x17) (v := undef) ?hi4x17 (by kernel_rfl) ?hf4x17 ?hr4x17 (fun _ _ _ h => h) ?hy4x17 (by assumption) ?rest4x17
                  case hi4x17 => (simp only [List.getElem?_toArray, List.getElem?_cons_succ, List.getElem?_cons_zero]; exact rfl)
                  case hf4x17 => kernel_rfl
                  case hr4x17 => kernel_rfl
                  case hy4x17 => exact Or.inr ⟨by rfl, rfl⟩
                  simp only [put_mk, List.set_cons_succ, List.set_cons_zero]
                  refine wpAnyH_take (i := 18) (oi := ?o4x18) (v := undef) ?hi4x18 (by kernel_rfl) ?hf4x18 ?hr4x18 (fun _ _ _ h => h) ?hy4x18 (by assumption) ?rest4x18
                  case hi4x18 => (simp only [List.getElem?_toArray, List.getElem?_cons_succ, List.getElem?_cons_zero]; exact rfl)
                  case hf4x18 => kernel_rfl
                  case hr4x18 => kernel_rfl
                  case hy4x18 => exact Or.inr ⟨by rfl, rfl⟩
                  simp only [put_mk, List.set_cons_succ, List.set_cons_zero]
                  refine wpAnyH_take (i := 19) (oi := ?o4x19) (v := undef) ?hi4x19 (by kernel_rfl) ?hf4x19 ?hr4x19 (fun _ _ _ h => h) ?hy4x19 (by assumption) ?rest4x19
                  case hi4x19 => (simp only [List.getElem?_toArray, List.getElem?_cons_succ, List.getElem?_cons_zero]; exact rfl)
                  case hf4x19 => kernel_rfl
                  case hr4x19 => kernel_rfl
                  case hy4x19 => exact Or.inr ⟨by rfl, rfl⟩
                  simp only [put_mk, List.set_cons_succ, List.set_cons_zero]
                  refine wpAnyH_take (i := 20) (oi := ?o4x20) (v := ?v4x20) ?hi4x20 (by kernel_rfl) ?hf4x20 ?hr4x20 (fun _ _ _ h => h) ?hy4x20 (by assumption) ?rest4x20
                  case hi4x20 => (simp only [List.getElem?_toArray, List.getElem?_cons_succ, List.getElem?_cons_zero]; exact rfl)
                  case hf4x20 => kernel_rfl
                  case hr4x20 => kernel_rfl
                  case hy4x20 => (refine Or.inl ⟨by rfl, ?_⟩; intro w hSw; (try dsimp only at hSw); go_simp; try with_reducible rfl)
                  simp only [put_mk, List.set_cons_succ, List.set_cons_zero]
                  refine wpAnyH_done (by kernel_rfl) ?_ _
                  refine NoPanic.normal ?_
                  go_wp2_with fail
                  go_roundw
                  case rel => exact ⟨j + 1, by omega, congrArg (Value.int .i64) (by omega), hA.drew, by rw [Hnx.out, hv.out]; exact hB.drew, hx.drew⟩
                  case measure => simp [intOf]; omega
                · rw [hs, Bool.true_and, plK_at hjl, plK_at hk] at Hsu
                  rw [hs] at b0
                  have hpw := hp.ext hx
                  obtain ⟨ad, rfl, hbk, _⟩ := hp.at (k := j) (by rw [pcells_length]; omega)
                  obtain ⟨d0, d1, d2, d3, d4⟩ := hpw.plant hjl
                  obtain ⟨f0, f1, f2, f3, f4⟩ := hpw.plant hk
                  have HCk := fun (w' : World) (h : Ext w w') => HCl p[j] p[k] w' (HE.out _ (List.getElem_mem hjl)) (HE.out _ (List.getElem_mem hk)) h
                  have hbw : ad.block < wr.heap.size := by have := hx.size; omega
                  have D0 : ∀ w', Ext wr w' → w'.cell? (ad.add (j * 5)) = some (.int .i64 p[j].kind) := fun w' h => (h.cell _ (by first | (show (ad.add (j * 5)).block < _; rw [add_block]; exact hbw) | (rw [add_block]; exact hbw))).trans d0
                  have D1 : ∀ w', Ext wr w' → w'.cell? ⟨(ad.add (j * 5)).block, (ad.add (j * 5)).off + 1, none⟩ = some (.int .i64 p[j].x) := fun w' h => (h.cell _ (by first | (show (ad.add (j * 5)).block < _; rw [add_block]; exact hbw) | (rw [add_block]; exact hbw))).trans d1
                  have D2 : ∀ w', Ext wr w' → w'.cell? ⟨(ad.add (j * 5)).block, (ad.add (j * 5)).off + 2, none⟩ = some (.int .i64 p[j].y) := fun w' h => (h.cell _ (by first | (show (ad.add (j * 5)).block < _; rw [add_block]; exact hbw) | (rw [add_block]; exact hbw))).trans d2
                  have D3 : ∀ w', Ext wr w' → w'.cell? ⟨(ad.add (j * 5)).block, (ad.add (j * 5)).off + 3, none⟩ = some (.float .f32 p[j].size) := fun w' h => (h.cell _ (by first | (show (ad.add (j * 5)).block < _; rw [add_block]; exact hbw) | (rw [add_block]; exact hbw))).trans d3
                  have D4 : ∀ w', Ext wr w' → w'.cell? ⟨(ad.add (j * 5)).block, (ad.add (j * 5)).off + 4, none⟩ = some (.int .i64 p[j].age) := fun w' h => (h.cell _ (by first | (show (ad.add (j * 5)).block < _; rw [add_block]; exact hbw) | (rw [add_block]; exact hbw))).trans d4
                  have F0 : ∀ w', Ext wr w' → w'.cell? (ad.add (k * 5)) = some (.int .i64 p[k].kind) := fun w' h => (h.cell _ (by first | (show (ad.add (k * 5)).block < _; rw [add_block]; exact hbw) | (rw [add_block]; exact hbw))).trans f0
                  have F1 : ∀ w', Ext wr w' → w'.cell? ⟨(ad.add (k * 5)).block, (ad.add (k * 5)).off + 1, none⟩ = some (.int .i64 p[k].x) := fun w' h => (h.cell _ (by first | (show (ad.add (k * 5)).block < _; rw [add_block]; exact hbw) | (rw [add_block]; exact hbw))).trans f1
                  have F2 : ∀ w', Ext wr w' → w'.cell? ⟨(ad.add (k * 5)).block, (ad.add (k * 5)).off + 2, none⟩ = some (.int .i64 p[k].y) := fun w' h => (h.cell _ (by first | (show (ad.add (k * 5)).block < _; rw [add_block]; exact hbw) | (rw [add_block]; exact hbw))).trans f2
                  have F3 : ∀ w', Ext wr w' → w'.cell? ⟨(ad.add (k * 5)).block, (ad.add (k * 5)).off + 3, none⟩ = some (.float .f32 p[k].size) := fun w' h => (h.cell _ (by first | (show (ad.add (k * 5)).block < _; rw [add_block]; exact hbw) | (rw [add_block]; exact hbw))).trans f3
                  have F4 : ∀ w', Ext wr w' → w'.cell? ⟨(ad.add (k * 5)).block, (ad.add (k * 5)).off + 4, none⟩ = some (.int .i64 p[k].age) := fun w' h => (h.cell _ (by first | (show (ad.add (k * 5)).block < _; rw [add_block]; exact hbw) | (rw [add_block]; exact hbw))).trans f4
                  generalize hcb : cloB l p[j] p[k] = b at *
                  clear hcb Hkt
                  generalize p[j] = x at *
                  generalize p[k] = y at *
                  obtain ⟨kd, px, py, sz, ag⟩ := x
                  obtain ⟨kd2, px2, py2, sz2, ag2⟩ := y
                  dsimp only at D0 D1 D2 D3 D4 F0 F1 F2 F3 F4
                  simp only [PlantR.v] at HCk
                  clear HCl d0 d1 d2 d3 d4 f0 f1 f2 f3 f4 hs
                  go_upto_region 16 with fail
                  refine wp_region_noPanic ?_
                  refine wp_region_held_drew (S := fun w' => Ext wr w') (by kernel_rfl) ?_ (fun hHeld => ?_)
                  · (repeat (first | exact Ext.refl _ | assumption | refine Ext.setCell ?_ (by first | (simp; done) | (simp; omega)) _ | refine Ext.drewN ?_ _ | refine Ext.alloc ?_ _ | refine Ext.drew ?_ | refine Ext.trans ?_ (by assumption)))
                  refine wpAnyH_take (i := 0) (oi := ?o5x0) (v := ?v5x0) ?hi5x0 (by kernel_rfl) ?hf5x0 ?hr5x0 (fun _ _ _ h => h) ?hy5x0 (by assumption) ?rest5x0
                  case hi5x0 => (simp only [List.getElem?_toArray, List.getElem?_cons_zero]; exact rfl)
                  case hf5x0 => kernel_rfl
                  case hr5x0 => kernel_rfl
                  case hy5x0 => (refine Or.inl ⟨by rfl, ?_⟩; intro w hSw; (try dsimp only at hSw); go_simp; try with_reducible rfl)
                  simp only [put_mk, List.set_cons_succ, List.set_cons_zero]
                  refine wpAnyH_take (i := 1) (oi := ?o5x1) (v := ?v5x1) ?hi5x1 (by kernel_rfl) ?hf5x1 ?hr5x1 (fun _ _ _ h => h) ?hy5x1 (by assumption) ?rest5x1
                  case hi5x1 => (simp only [List.getElem?_toArray, List.getElem?_cons_succ, List.getElem?_cons_zero]; exact rfl)
                  case hf5x1 => kernel_rfl
                  case hr5x1 => kernel_rfl
                  case hy5x1 => (refine Or.inl ⟨by rfl, ?_⟩; intro w hSw; (try dsimp only at hSw); go_simp; try with_reducible rfl)
                  simp only [put_mk, List.set_cons_succ, List.set_cons_zero]
                  refine wpAnyH_take (i := 2) (oi := ?o5x2) (v := ?v5x2) ?hi5x2 (by kernel_rfl) ?hf5x2 ?hr5x2 (fun _ _ _ h => h) ?hy5x2 (by assumption) ?rest5x2
                  case hi5x2 => (simp only [List.getElem?_toArray, List.getElem?_cons_succ, List.getElem?_cons_zero]; exact rfl)
                  case hf5x2 => kernel_rfl
                  case hr5x2 => kernel_rfl
                  case hy5x2 => (refine Or.inl ⟨by rfl, ?_⟩; intro w hSw; (try dsimp only at hSw); go_simp; try with_reducible rfl)
                  simp only [put_mk, List.set_cons_succ, List.set_cons_zero]
                  refine wpAnyH_take (i := 3) (oi := ?o5x3) (v := ?v5x3) ?hi5x3 (by kernel_rfl) ?hf5x3 ?hr5x3 (fun _ _ _ h => h) ?hy5x3 (by assumption) ?rest5x3
                  case hi5x3 => (simp only [List.getElem?_toArray, List.getElem?_cons_succ, List.getElem?_cons_zero]; exact rfl)
                  case hf5x3 => kernel_rfl
                  case hr5x3 => kernel_rfl
                  case hy5x3 => (refine Or.inl ⟨by rfl, ?_⟩; intro w hSw; (try dsimp only at hSw); go_simp; try with_reducible rfl)
                  simp only [put_mk, List.set_cons_succ, List.set_cons_zero]
                  refine wpAnyH_take (i := 4) (oi := ?o5x4) (v := ?v5x4) ?hi5x4 (by kernel_rfl) ?hf5x4 ?hr5x4 (fun _ _ _ h => h) ?hy5x4 (by assumption) ?rest5x4
                  case hi5x4 => (simp only [List.getElem?_toArray, List.getElem?_cons_succ, List.getElem?_cons_zero]; exact rfl)
                  case hf5x4 => kernel_rfl
                  case hr5x4 => kernel_rfl
                  case hy5x4 => (refine Or.inl ⟨by rfl, ?_⟩; intro w hSw; (try dsimp only at hSw); go_simp; try with_reducible rfl)
                  simp only [put_mk, List.set_cons_succ, List.set_cons_zero]
                  refine wpAnyH_take (i := 5) (oi := ?o5x5) (v := ?v5x5) ?hi5x5 (by kernel_rfl) ?hf5x5 ?hr5x5 (fun _ _ _ h => h) ?hy5x5 (by assumption) ?rest5x5
                  case hi5x5 => (simp only [List.getElem?_toArray, List.getElem?_cons_succ, List.getElem?_cons_zero]; exact rfl)
                  case hf5x5 => kernel_rfl
                  case hr5x5 => kernel_rfl
                  case hy5x5 => (refine Or.inl ⟨by rfl, ?_⟩; intro w hSw; (try dsimp only at hSw); go_simp; try with_reducible rfl)
                  simp only [put_mk, List.set_cons_succ, List.set_cons_zero]
                  refine wpAnyH_take (i := 6) (oi := ?o5x6) (v := ?v5x6) ?hi5x6 (by kernel_rfl) ?hf5x6 ?hr5x6 (fun _ _ _ h => h) ?hy5x6 (by assumption) ?rest5x6
                  case hi5x6 => (simp only [List.getElem?_toArray, List.getElem?_cons_succ, List.getElem?_cons_zero]; exact rfl)
                  case hf5x6 => kernel_rfl
                  case hr5x6 => kernel_rfl
                  case hy5x6 => (refine Or.inl ⟨by rfl, ?_⟩; intro w hSw; (try dsimp only at hSw); go_simp; try with_reducible rfl)
                  simp only [put_mk, List.set_cons_succ, List.set_cons_zero]
                  refine wpAnyH_take (i := 7) (oi := ?o5x7) (v := ?v5x7) ?hi5x7 (by kernel_rfl) ?hf5x7 ?hr5x7 (fun _ _ _ h => h) ?hy5x7 (by assumption) ?rest5x7
                  case hi5x7 => (simp only [List.getElem?_toArray, List.getElem?_cons_succ, List.getElem?_cons_zero]; exact rfl)
                  case hf5x7 => kernel_rfl
                  case hr5x7 => kernel_rfl
                  case hy5x7 => (refine Or.inl ⟨by rfl, ?_⟩; intro w hSw; (try dsimp only at hSw); go_simp; try with_reducible rfl)
                  simp only [put_mk, List.set_cons_succ, List.set_cons_zero]
                  refine wpAnyH_take (i := 8) (oi := ?o5x8) (v := ?v5x8) ?hi5x8 (by kernel_rfl) ?hf5x8 ?hr5x8 (fun _ _ _ h => h) ?hy5x8 (by assumption) ?rest5x8
                  case hi5x8 => (simp only [List.getElem?_toArray, List.getElem?_cons_succ, List.getElem?_cons_zero]; exact rfl)
                  case hf5x8 => kernel_rfl
                  case hr5x8 => kernel_rfl
                  case hy5x8 => (refine Or.inl ⟨by rfl, ?_⟩; intro w hSw; (try dsimp only at hSw); go_simp; try with_reducible rfl)
                  simp only [put_mk, List.set_cons_succ, List.set_cons_zero]
                  refine wpAnyH_take (i := 9) (oi := ?o5x9) (v := ?v5x9) ?hi5x9 (by kernel_rfl) ?hf5x9 ?hr5x9 (fun _ _ _ h => h) ?hy5x9 (by assumption) ?rest5x9
                  case hi5x9 => (simp only [List.getElem?_toArray, List.getElem?_cons_succ, List.getElem?_cons_zero]; exact rfl)
                  case hf5x9 => kernel_rfl
                  case hr5x9 => kernel_rfl
                  case hy5x9 => (refine Or.inl ⟨by rfl, ?_⟩; intro w hSw; (try dsimp only at hSw); go_simp; try with_reducible rfl)
                  simp only [put_mk, List.set_cons_succ, List.set_cons_zero]
                  refine wpAnyH_take (i := 10) (oi := ?o5x10) (v := ?v5x10) ?hi5x10 (by kernel_rfl) ?hf5x10 ?hr5x10 (fun _ _ _ h => h) ?hy5x10 (by assumption) ?rest5x10
                  case hi5x10 => (simp only [List.getElem?_toArray, List.getElem?_cons_succ, List.getElem?_cons_zero]; exact rfl)
                  case hf5x10 => kernel_rfl
                  case hr5x10 => kernel_rfl
                  case hy5x10 => (refine Or.inl ⟨by rfl, ?_⟩; intro w hSw; (try dsimp only at hSw); go_simp; try with_reducible rfl)
                  simp only [put_mk, List.set_cons_succ, List.set_cons_zero]
                  refine wpAnyH_take (i := 11) (oi := ?o5x11) (v := ?v5x11) ?hi5x11 (by kernel_rfl) ?hf5x11 ?hr5x11 (fun _ _ _ h => h) ?hy5x11 (by assumption) ?rest5x11
                  case hi5x11 => (simp only [List.getElem?_toArray, List.getElem?_cons_succ, List.getElem?_cons_zero]; exact rfl)
                  case hf5x11 => kernel_rfl
                  case hr5x11 => kernel_rfl
                  case hy5x11 => (refine Or.inl ⟨by rfl, ?_⟩; intro w hSw; (try dsimp only at hSw); go_simp; try with_reducible rfl)
                  simp only [put_mk, List.set_cons_succ, List.set_cons_zero]
                  refine wpAnyH_take (i := 12) (oi := ?o5x12) (v := ?v5x12) ?hi5x12 (by kernel_rfl) ?hf5x12 ?hr5x12 (fun _ _ _ h => h) ?hy5x12 (by assumption) ?rest5x12
                  case hi5x12 => (simp only [List.getElem?_toArray, List.getElem?_cons_succ, List.getElem?_cons_zero]; exact rfl)
                  case hf5x12 => kernel_rfl
                  case hr5x12 => kernel_rfl
                  case hy5x12 => (refine Or.inl ⟨by rfl, ?_⟩; intro w hSw; (try dsimp only at hSw); go_simp; try with_reducible rfl)
                  simp only [put_mk, List.set_cons_succ, List.set_cons_zero]
                  refine wpAnyH_take (i := 13) (oi := ?o5x13) (v := ?v5x13) ?hi5x13 (by kernel_rfl) ?hf5x13 ?hr5x13 (fun _ _ _ h => h) ?hy5x13 (by assumption) ?rest5x13
                  case hi5x13 => (simp only [List.getElem?_toArray, List.getElem?_cons_succ, List.getElem?_cons_zero]; exact rfl)
                  case hf5x13 => kernel_rfl
                  case hr5x13 => kernel_rfl
                  case hy5x13 => (refine Or.inl ⟨by rfl, ?_⟩; intro w hSw; (try dsimp only at hSw); go_simp; try with_reducible rfl)
                  simp only [put_mk, List.set_cons_succ, List.set_cons_zero]
                  refine wpAnyH_take (i := 14) (oi := ?o5x14) (v := ?v5x14) ?hi5x14 (by kernel_rfl) ?hf5x14 ?hr5x14 (fun _ _ _ h => h) ?hy5x14 (by assumption) ?rest5x14
                  case hi5x14 => (simp only [List.getElem?_toArray, List.getElem?_cons_succ, List.getElem?_cons_zero]; exact rfl)
                  case hf5x14 => kernel_rfl
                  case hr5x14 => kernel_rfl
                  case hy5x14 => (refine Or.inl ⟨by rfl, ?_⟩; intro w hSw; (try dsimp only at hSw); go_simp; try with_reducible rfl)
                  simp only [put_mk, List.set_cons_succ, List.set_cons_zero]
                  refine wpAnyH_take (i := 15) (oi := ?o5x15) (v := ?v5x15) ?hi5x15 (by kernel_rfl) ?hf5x15 ?hr5x15 (fun _ _ _ h => h) ?hy5x15 (by assumption) ?rest5x15
                  case hi5x15 => (simp only [List.getElem?_toArray, List.getElem?_cons_succ, List.getElem?_cons_zero]; exact rfl)
                  case hf5x15 => kernel_rfl
                  case hr5x15 => kernel_rfl
                  case hy5x15 => (refine Or.inl ⟨by rfl, ?_⟩; intro w hSw; (try dsimp only at hSw); go_simp; try with_reducible rfl)
                  simp only [put_mk, List.set_cons_succ, List.set_cons_zero]
                  refine wpAnyH_take (i := 16) (oi := ?o5x16) (v := ?v5x16) ?hi5x16 (by kernel_rfl) ?hf5x16 ?hr5x16 (fun _ _ _ h => h) ?hy5x16 (by assumption) ?rest5x16
                  case hi5x16 => (simp only [List.getElem?_toArray, List.getElem?_cons_succ, List.getElem?_cons_zero]; exact rfl)
                  case hf5x16 => kernel_rfl
                  case hr5x16 => kernel_rfl
                  case hy5x16 => (refine Or.inl ⟨by rfl, ?_⟩; intro w hSw; (try dsimp only at hSw); go_simp; try with_reducible rfl)
                  simp only [put_mk, List.set_cons_succ, List.set_cons_zero]
                  refine wpAnyH_take (i := 17) (oi := ?o5x17) (v := ?v5x17) ?hi5x17 (by kernel_rfl) ?hf5x17 ?hr5x17 (fun _ _ _ h => h) ?hy5x17 (by assumption) ?rest5x17
                  case hi5x17 => (simp only [List.getElem?_toArray, List.getElem?_cons_succ, List.getElem?_cons_zero]; exact rfl)
                  case hf5x17 => kernel_rfl
                  case hr5x17 => kernel_rfl
                  case hy5x17 => (refine Or.inl ⟨by rfl, ?_⟩; intro w hSw; (try dsimp only at hSw); go_simp; try with_reducible rfl)
                  simp only [put_mk, List.set_cons_succ, List.set_cons_zero]
                  refine wpAnyH_take (i := 18) (oi := ?o5x18) (v := ?v5x18) ?hi5x18 (by kernel_rfl) ?hf5x18 ?hr5x18 (fun _ _ _ h => h) ?hy5x18 (by assumption) ?rest5x18
                  case hi5x18 => (simp only [List.getElem?_toArray, List.getElem?_cons_succ, List.getElem?_cons_zero]; exact rfl)
                  case hf5x18 => kernel_rfl
                  case hr5x18 => kernel_rfl
                  case hy5x18 => (refine Or.inl ⟨by rfl, ?_⟩; intro w hSw; (try dsimp only at hSw); go_simp; try with_reducible rfl)
                  simp only [put_mk, List.set_cons_succ, List.set_cons_zero]
                  refine wpAnyH_ready (rs := [19]) (by kernel_rfl) (by simp) ?_
                  refine AllReadyH.cons (o := ?o5x19) ?hi5x19 (fun K hK => ?_) AllReadyH.nil
                  case hi5x19 => (simp only [List.getElem?_toArray, List.getElem?_cons_succ, List.getElem?_cons_zero]; exact rfl)
                  go_simp
                  refine ((HCk _ (hx.trans (by repeat (first | exact Ext.refl _ | assumption | refine Ext.setCell ?_ (by first | (simp; done) | (simp; omega)) _ | refine Ext.drewN ?_ _ | refine Ext.alloc ?_ _ | refine Ext.drew ?_ | refine Ext.trans ?_ (by assumption))))).out).mono ?_
                  rintro e w6 ⟨rfl, hb6⟩
                  refine hK.out _ _ ?_ (fun hHeld => ?_)
                  · (repeat (first | exact Ext.refl _ | assumption | refine Ext.setCell ?_ (by first | (simp; done) | (simp; omega)) _ | refine Ext.drewN ?_ _ | refine Ext.alloc ?_ _ | refine Ext.drew ?_ | refine Ext.trans ?_ (by assumption)))
                  clear hK K
                  refine wpAnyH_take (i := 20) (oi := ?o5x20) (v := ?v5x20) ?hi5x20 (by kernel_rfl) ?hf5x20 ?hr5x20 (fun _ _ _ h => h) ?hy5x20 (by assumption) ?rest5x20
                  case hi5x20 => (simp only [List.getElem?_toArray, List.getElem?_cons_succ, List.getElem?_cons_zero]; exact rfl)
                  case hf5x20 => kernel_rfl
                  case hr5x20 => kernel_rfl
                  case hy5x20 => (refine Or.inl ⟨by rfl, ?_⟩; intro w hSw; (try dsimp only at hSw); go_simp; try with_reducible rfl)
                  simp only [put_mk, List.set_cons_succ, List.set_cons_zero]
                  refine wpAnyH_done (by kernel_rfl) ?_ _
                  refine NoPanic.normal ?_
                  have hx6 : Ext wr w6 := (Ext.refl wr).drew.trans hb6
                  have A6 := hA.ext hx6
                  have B6 := hB.ext hx6
                  have e2 : w6.cell? ⟨gb, k, none⟩ = some (.bool (!anyC l p o t k j)) := by
                    rw [B6.cell, bools_get _ km]
                    simp [upB]
                  have e3 := B6.frozen k
                  have B7 := Bk.set B6 k (.bool false)
                  rw [bools_set] at B7
                  have hx7 : Ext w (w6.setCell ⟨gb, k, none⟩ (.bool false)) := (hx.trans hx6).setCell hg2 _
                  have A7 := A6.far (p := ⟨gb, k, none⟩) hne (.bool false)
                  clear D0 D1 D2 D3 D4 F0 F1 F2 F3 F4 b0 HCk
                  cases b
                  · have hv : Hid (nx = anyC l p o t k j) := by show nx = _; rw [Hsu.out]; simp
                    clear Hsu e2 e3 B7 hx7 A7
                    go_wp2_with fail
                    go_roundw
                    case rel => exact ⟨j + 1, by omega, congrArg (Value.int .i64) (by omega), A6, by rw [Hnx.out, hv.out]; exact B6, hx.trans hx6⟩
                    case measure => simp [intOf]; omega
                  · have hv : Hid (nx = true) := by show nx = _; rw [Hsu.out]; simp
                    clear Hsu
                    go_wp2_with fail
                    go_roundw
                    case rel => exact ⟨j + 1, by omega, congrArg (Value.int .i64) (by omega), A7, by
                      rw [Hnx.out, hv.out]
                      have e : upB (upB (stayT l p o t) k (!anyC l p o t k j)) k false = upB (stayT l p o t) k (!true) := by funext i; unfold upB; split <;> rfl
                      rw [← e]
                      exact B7, hx7⟩
                    case measure => simp [intOf]; omega
            · obtain rfl : m = j := by omega
              have hA9 : Bk wr ga 4 (bools m (outT p o (t + 1))) := by
                rw [bools_congr (g := upB (outT p o t) k true) (fun i hi => by
                  rw [out_next HR.out hto hk Hkt.out (by rw [Hm.out]; exact hi)]; rfl)]
                exact hA
              have hB9 : Bk wr gb 4 (bools m (stayT l p o (t + 1))) := by
                rw [bools_congr (g := upB (stayT l p o t) k (!anyC l p o t k m)) (fun i hi => by
                  rw [stay_next l HR.out HS.out hto hk Hkt.out (by rw [Hm.out]; exact hi), Hm.out]; rfl)]
                exact hB
              clear hA hB Hkt
              go_wp2_with fail
              go_roundw
              case rel => exact ⟨t + 1, by omega, congrArg (Value.int .i64) (by omega), hA9, hB9, hx⟩
              case measure => simp [intOf]; omega
    · obtain rfl : m = t := by omega
      have hol : o.take m = o := List.take_of_length_le (by rw [HS.out.length, Hm.out]; exact Nat.le_refl _)
      have hst : ∀ j (h : j < p.length), stayT l p o m j = decide (p[j] ∈ stayL l o) := fun j h => by unfold stayT; rw [hol, plK_at h]
      have Hst := hidA hst
      clear hA HCl HSt hol hst
      have hO0 : OwnP wo wo.heap.size (.slice none 0 0) ((p.take 0).filter fun x => decide (x ∈ stayL l o)) := OwnP.nil _ _
      go_wp2_with fail
      go_loopw [10, 88] (fun v i wr => ∃ j : Nat, j ≤ m ∧ i = .int .i64 j ∧ OwnP wr wo.heap.size v ((p.take j).filter fun x => decide (x ∈ stayL l o)) ∧ Ext wo wr) (fun _ i _ => m - (intOf i).toNat)
      case atStart => exact ⟨0, Nat.zero_le _, rfl, hO0, Ext.refl _⟩
      case round =>
        clear hO0
        obtain ⟨j, hj, rfl, hO, hxr⟩ := hrel
        by_cases hjm : j < m
        · have hjl : j < p.length := by have := Hm.out; omega
          have j0 : (0 : Int) ≤ j := by omega
          have j1 : (j : Int) < m := by omega
          have b0 : wr.cell? ⟨gb, j, none⟩ = some (.bool (stayT l p o m j)) := by rw [(hB.ext hxr).cell]; exact bools_get _ hjm
          rw [Hst.out j hjl] at b0
          have Hfs := hidA (filter_snoc (fun x => decide (x ∈ stayL l o)) hjl)
          have hSm : ((p.take j).filter fun x => decide (x ∈ stayL l o)).length ≤ 4000 := by
            refine Nat.le_trans (List.length_filter_le _ _) ?_
            rw [List.length_take]
            omega
          generalize hS0 : (p.take j).filter (fun x => decide (x ∈ stayL l o)) = S at *
          have HS0 := hidA hS0
          clear hS0
          obtain ⟨A6, c6, rfl⟩ := hO.form
          cases hdc : decide (p[j] ∈ stayL l o)
          · rw [hdc] at b0 Hfs
            clear hdc
            go_wp2_with fail
            go_roundw
            case rel => exact ⟨j + 1, by omega, congrArg (Value.int .i64) (by omega), by rw [Hfs.out]; simpa using hO, hxr⟩
            case measure => simp [intOf]; omega
          · rw [hdc] at b0 Hfs
            clear hdc
            have hpw := hp.ext (hx.trans hxr)
            obtain ⟨ad, rfl, hbk, _⟩ := hp.at (k := j) (by rw [pcells_length]; omega)
            obtain ⟨d0, d1, d2, d3, d4⟩ := hpw.plant hjl
            generalize p[j] = x at *
            generalize hSl : S.length = sl at *
            have hA := hidA (show (wr.alloc (.cells #[.int .i64 x.kind, .int .i64 x.x, .int .i64 x.y, .float .f32 x.size, .int .i64 x.age] 46)).ownsRow wo.heap.size 46 5 (.slice A6 sl c6) sl (pcells S) from by
              have h := hO.ext ((Ext.refl wr).alloc (.cells #[.int .i64 x.kind, .int .i64 x.x, .int .i64 x.y, .float .f32 x.size, .int .i64 x.age] 46))
              unfold OwnP at h
              rw [hSl] at h
              exact h)
            have hN := hidA (show ∀ j u, x.cells[j]? = some u → (wr.alloc (.cells #[.int .i64 x.kind, .int .i64 x.x, .int .i64 x.y, .float .f32 x.size, .int .i64 x.age] 46)).cell? ((⟨wr.heap.size, 0, none⟩ : Addr).add j) = some u from World.news_of_block (cs := #[.int .i64 x.kind, .int .i64 x.x, .int .i64 x.y, .float .f32 x.size, .int .i64 x.age]) (t := 46) (fr := (0, 0)) (Bk.new' rfl))
            have hs5 := hidA (show wo.heap.size ≤ (wr.alloc (.cells #[.int .i64 x.kind, .int .i64 x.x, .int .i64 x.y, .float .f32 x.size, .int .i64 x.age] 46)).heap.size from by have := hxr.size; simp; omega)
            go_wp2_with (at_builtin; (refine wpList_append_own _ (by rfl) (.tmp 95) (.tmp 100) 23 (by rfl) wo.heap.size 46 i0 _ 5 40 Tryd.underlying23 hi0 hz0 hz1 hz2 (by rfl) (by decide) (.slice A6 sl c6) sl (pcells S) (by rfl) hA.out ⟨wr.heap.size, 0, none⟩ 1 1 x.cells (by rfl) (by rfl) hN.out (cells_one x) (by unfold maxLen; omega) (by omega) hs5.out ?_; intro v6 w6 hown6 hgrow6 _))
            have hx6 : Ext wo w6 := Ext.grown (hxr.alloc _) hgrow6 (fun q he => (hA.out.lt q he).1)
            have hO6 : OwnP w6 wo.heap.size v6 ((p.take (j + 1)).filter fun x => decide (x ∈ stayL l o)) := by
              rw [Hfs.out, if_pos rfl]
              unfold OwnP
              rw [pcells_snoc, List.length_append, hSl]
              exact hown6
            clear hO hA hown6 hgrow6
            go_roundw
            case rel => exact ⟨j + 1, by omega, congrArg (Value.int .i64) (by omega), hO6, hx6⟩
            case measure => simp [intOf]; omega
        · obtain rfl : m = j := by omega
          rw [List.take_of_length_le (by rw [Hm.out]; exact Nat.le_refl _)] at hO
          have hOf := hidA (hO.base hx.size)
          clear hO
          go_wp2_with fail
          go_ret
          exact ⟨_, rfl, hOf.out, hx.trans hxr⟩
end Go.Proofs.YtgaonoklbihkjaaDoor
