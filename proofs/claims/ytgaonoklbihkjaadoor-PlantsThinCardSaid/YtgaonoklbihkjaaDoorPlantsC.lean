/- Contract: plant.checkPlant. -/
import Derived.Test.YtgaonoklbihkjaaDoorPlantsB
import Derived.Test.YtgaonoklbihkjaaDoorKindsD
namespace Go.Proofs.YtgaonoklbihkjaaDoor
open Go.RowKit
attribute [local go_sem ↓] Go.wp_at_zero Go.wp_at_succ
attribute [local go_sem] run_store_float

theorem topOf_nat {l : List KindR} {k : Nat} (hk : k < l.length) : topOf l (k : Int) = l[k].a6 := by
  unfold topOf
  simp [hk]
theorem spaceOf_nat {l : List KindR} {k : Nat} (hk : k < l.length) : spaceOf l (k : Int) = l[k].p := by
  unfold spaceOf
  simp [hk]
theorem plantE_far {l : List KindR} {x : PlantR} (h1 : ¬ (x.kind < 0 ∨ (l.length : Int) ≤ x.kind)) (h2 : x.farB = true) : plantE l x = 5 := by
  unfold plantE
  rw [if_neg h1, if_pos h2]
theorem plantE_num {l : List KindR} {x : PlantR} (h1 : ¬ (x.kind < 0 ∨ (l.length : Int) ≤ x.kind)) (h2 : x.farB = false) (h3 : numE [x.size] ≠ 0) : plantE l x = numE [x.size] := by
  unfold plantE
  rw [if_neg h1, if_neg (by rw [h2]; decide), if_pos h3]
theorem plantE_bad {l : List KindR} {x : PlantR} (h1 : ¬ (x.kind < 0 ∨ (l.length : Int) ≤ x.kind)) (h2 : x.farB = false) (h3 : numE [x.size] = 0) (h4 : x.badB l = true) : plantE l x = 3 := by
  unfold plantE
  rw [if_neg h1, if_neg (by rw [h2]; decide), if_neg (by rw [h3]; decide), if_pos h4]
theorem plantE_fine {l : List KindR} {x : PlantR} (h1 : ¬ (x.kind < 0 ∨ (l.length : Int) ≤ x.kind)) (h2 : x.farB = false) (h3 : numE [x.size] = 0) (h4 : x.badB l = false) : plantE l x = 0 := by
  unfold plantE
  rw [if_neg h1, if_neg (by rw [h2]; decide), if_neg (by rw [h3]; decide), if_neg (by rw [h4]; decide)]
theorem bad_ways {l : List KindR} {x : PlantR} {t : Nat} (ht : topOf l x.kind = t) (h : x.badB l = true) : lt x.size 0 = true ∨ lt x.size 0 = false ∧ gt x.size t = true ∨ lt x.size 0 = false ∧ gt x.size t = false ∧ x.age < 0 ∨ lt x.size 0 = false ∧ gt x.size t = false ∧ 0 ≤ x.age ∧ 1000 < x.age := by
  unfold PlantR.badB at h
  rw [ht] at h
  cases h1 : lt x.size 0
  · cases h2 : gt x.size t
    · rw [h1, h2] at h
      simp at h
      refine .inr (.inr ?_)
      simp
      omega
    · exact .inr (.inl ⟨rfl, rfl⟩)
  · exact .inl rfl
theorem bad_none {l : List KindR} {x : PlantR} {t : Nat} (ht : topOf l x.kind = t) (h : x.badB l = false) : lt x.size 0 = false ∧ gt x.size t = false ∧ 0 ≤ x.age ∧ x.age ≤ 1000 := by
  unfold PlantR.badB at h
  rw [ht] at h
  simp at h
  exact ⟨h.1, h.2.1, by omega, by omega⟩

set_option maxRecDepth 100000 in
set_option maxHeartbeats 3200000 in
theorem checkPlant_any (A : Option Addr) (n c : Nat) (l : List KindR) (x : PlantR) (w : World) (hn : l.length = n) (hd : Rd w A (kcells l)) (hb : n ≤ 4000000000000) :
    Calls Tryd.prog 76 #[.slice A n c, x.v] w fun e w' => e = .returned (.int .i64 (plantE l x)) ∧ Ext w w' := by
  obtain ⟨kd, px, py, sz, ag⟩ := x
  simp only [PlantR.v]
  by_cases h1 : kd < 0 ∨ (l.length : Int) ≤ kd
  · have HE : Hid (plantE l ⟨kd, px, py, sz, ag⟩ = 1) := if_pos h1
    rw [hn] at h1
    rcases h1 with h1 | h1
    · clear hn
      go_enter Tryd.func76, Tryd.ntmps76
      go_wp2
      go_ret
      exact ⟨ret_i HE.out.symm, (by repeat (first | exact Ext.refl _ | assumption | refine Ext.setCell ?_ (by first | (simp; done) | (simp; omega)) _ | refine Ext.drewN ?_ _ | refine Ext.alloc ?_ _ | refine Ext.drew ?_ | refine Ext.trans ?_ (by assumption)))⟩
    · clear hn
      have h0 : ¬ kd < 0 := by omega
      go_enter Tryd.func76, Tryd.ntmps76
      go_wp2
      go_ret
      exact ⟨ret_i HE.out.symm, (by repeat (first | exact Ext.refl _ | assumption | refine Ext.setCell ?_ (by first | (simp; done) | (simp; omega)) _ | refine Ext.drewN ?_ _ | refine Ext.alloc ?_ _ | refine Ext.drew ?_ | refine Ext.trans ?_ (by assumption)))⟩
  obtain ⟨k, rfl⟩ : ∃ k : Nat, kd = k := ⟨kd.toNat, by omega⟩
  have k0 : (0 : Int) ≤ k := by omega
  have kl : k < l.length := by omega
  have k1 : (k : Int) < n := by omega
  have ht := topOf_nat kl
  by_cases h2 : PlantR.farB ⟨(k : Int), px, py, sz, ag⟩ = true
  · have HE := hidA (plantE_far (l := l) (x := ⟨(k : Int), px, py, sz, ag⟩) h1 h2)
    have HP := fun (w : World) => hidA (checkPlace_any px py w)
    rw [if_pos (show decide (px < -4194304 ∨ 4194304 < px ∨ py < -4194304 ∨ 4194304 < py) = true from h2)] at HP
    clear h1 h2 ht hn
    go_enter Tryd.func76, Tryd.ntmps76
    go_wp2_with fail
    refine ((HP _).out).mono ?_
    rintro e w1 ⟨rfl, hw1⟩
    rw [hw1]
    clear hw1 w1
    go_wp2
    go_ret
    exact ⟨ret_i HE.out.symm, (by repeat (first | exact Ext.refl _ | assumption | refine Ext.setCell ?_ (by first | (simp; done) | (simp; omega)) _ | refine Ext.drewN ?_ _ | refine Ext.alloc ?_ _ | refine Ext.drew ?_ | refine Ext.trans ?_ (by assumption)))⟩
  have h2 := (Bool.not_eq_true _).mp h2
  have HP := fun (w : World) => hidA (checkPlace_any px py w)
  rw [if_neg (by rw [show decide (px < -4194304 ∨ 4194304 < px ∨ py < -4194304 ∨ 4194304 < py) = false from h2]; decide)] at HP
  by_cases h3 : numE [sz] = 0
  · have h3' : numE [PlantR.size ⟨(k : Int), px, py, sz, ag⟩] = 0 := h3
    have HN := fun (A : Option Addr) (w : World) (hr : Rd w A (flt [sz])) => hidA (heights_any A 1 1 [sz] w rfl hr (by omega))
    rw [h3] at HN
    have Hd := hidA hd
    obtain ⟨ad, rfl, hbk, _⟩ := hd.at (k := k) (by rw [kcells_length]; omega)
    have hkc := hidA (fun (w' : World) (h : Ext w w') => ((hd.ext h).kind kl).2.2.2.2.2.2.2.1)
    generalize hte : l[k].a6 = t at *
    clear hd Hd hte
    have hz : ∀ C : Prop, (lt sz 0 = true → C) → (lt sz 0 = false → gt sz t = true → C) → (lt sz 0 = false → gt sz t = false → ag < 0 → C) → (lt sz 0 = false → gt sz t = false → 0 ≤ ag → 1000 < ag → C) → (lt sz 0 = false → gt sz t = false → 0 ≤ ag → ag ≤ 1000 → C) → C := by
      intro C c1 c2 c3 c4 c5
      cases e1 : lt sz 0
      · cases e2 : gt sz t
        · rcases Int.lt_or_le ag 0 with e3 | e3
          · exact c3 e1 e2 e3
          · rcases Int.lt_or_le 1000 ag with e4 | e4
            · exact c4 e1 e2 e3 e4
            · exact c5 e1 e2 e3 e4
        · exact c2 e1 e2
      · exact c1 e1
    have HE : Hid (plantE l ⟨(k : Int), px, py, sz, ag⟩ = if PlantR.badB l ⟨(k : Int), px, py, sz, ag⟩ = true then 3 else 0) := by
      show _ = _
      by_cases h4 : PlantR.badB l ⟨(k : Int), px, py, sz, ag⟩ = true
      · rw [if_pos h4]; exact plantE_bad h1 h2 h3' h4
      · rw [if_neg h4]; exact plantE_fine h1 h2 h3' ((Bool.not_eq_true _).mp h4)
    have HB : Hid (PlantR.badB l ⟨(k : Int), px, py, sz, ag⟩ = (lt sz 0 || (gt sz t || (decide (ag < 0) || decide (1000 < ag))))) := by
      show _ = _
      unfold PlantR.badB
      rw [ht]
    rw [HB.out] at HE
    clear h1 h2 h3 h3' ht HB hn kl
    refine hz _ ?_ ?_ ?_ ?_ ?_
    · intro e1
      have HE : Hid (plantE l ⟨(k : Int), px, py, sz, ag⟩ = 3) := by show _ = _; rw [HE.out]; simp [e1]; try omega
      have C1 : (FloatKind.f32.format.order sz 0 == some .lt) = true := e1
      clear hz e1
      go_enter Tryd.func76, Tryd.ntmps76
      go_wp2_with fail
      refine ((HP _).out).mono ?_
      rintro e w1 ⟨rfl, hw1⟩
      rw [hw1]
      clear hw1 w1
      go_wp2_with fail
      refine ((HN _ _ (Rd.new (by first | rfl | simp) rfl)).out).mono ?_
      rintro e w2 ⟨rfl, hw2⟩
      have hx2 : Ext w w2 := by rw [← hw2]; exact ((Ext.refl w).alloc _).alloc _
      have hX : Bk w2 w.heap.size 46 #[.int .i64 k, .int .i64 px, .int .i64 py, .float .f32 sz, .int .i64 ag] := by rw [← hw2]; exact (Bk.new' rfl).alloc _
      have d0 := hX.cell 0
      have d3 := hX.cell 3
      have d4 := hX.cell 4
      have dk := hkc.out w2 hx2
      have hlX := hX.lt
      clear hw2 hX hkc HN HP
      go_wp2_with fail
      go_quiet (fail)
      go_wp2
      go_ret
      exact ⟨ret_i HE.out.symm, (by repeat (first | exact Ext.refl _ | assumption | refine Ext.setCell ?_ (by first | (simp; done) | (simp; omega)) _ | refine Ext.drewN ?_ _ | refine Ext.alloc ?_ _ | refine Ext.drew ?_ | refine Ext.trans ?_ (by assumption)))⟩
    · intro e1 e2
      have HE : Hid (plantE l ⟨(k : Int), px, py, sz, ag⟩ = 3) := by show _ = _; rw [HE.out]; simp [e1, e2]; try omega
      have C1 : (FloatKind.f32.format.order sz 0 == some .lt) = false := e1
      have C2 : (FloatKind.f32.format.order sz t == some .gt) = true := e2
      clear hz e1 e2
      go_enter Tryd.func76, Tryd.ntmps76
      go_wp2_with fail
      refine ((HP _).out).mono ?_
      rintro e w1 ⟨rfl, hw1⟩
      rw [hw1]
      clear hw1 w1
      go_wp2_with fail
      refine ((HN _ _ (Rd.new (by first | rfl | simp) rfl)).out).mono ?_
      rintro e w2 ⟨rfl, hw2⟩
      have hx2 : Ext w w2 := by rw [← hw2]; exact ((Ext.refl w).alloc _).alloc _
      have hX : Bk w2 w.heap.size 46 #[.int .i64 k, .int .i64 px, .int .i64 py, .float .f32 sz, .int .i64 ag] := by rw [← hw2]; exact (Bk.new' rfl).alloc _
      have d0 := hX.cell 0
      have d3 := hX.cell 3
      have d4 := hX.cell 4
      have dk := hkc.out w2 hx2
      have hlX := hX.lt
      clear hw2 hX hkc HN HP
      go_wp2_with fail
      go_quiet (fail)
      go_wp2
      go_ret
      exact ⟨ret_i HE.out.symm, (by repeat (first | exact Ext.refl _ | assumption | refine Ext.setCell ?_ (by first | (simp; done) | (simp; omega)) _ | refine Ext.drewN ?_ _ | refine Ext.alloc ?_ _ | refine Ext.drew ?_ | refine Ext.trans ?_ (by assumption)))⟩
    · intro e1 e2 e3
      have HE : Hid (plantE l ⟨(k : Int), px, py, sz, ag⟩ = 3) := by show _ = _; rw [HE.out]; simp [e1, e2, e3]; try omega
      have C1 : (FloatKind.f32.format.order sz 0 == some .lt) = false := e1
      have C2 : (FloatKind.f32.format.order sz t == some .gt) = false := e2
      clear hz e1 e2
      go_enter Tryd.func76, Tryd.ntmps76
      go_wp2_with fail
      refine ((HP _).out).mono ?_
      rintro e w1 ⟨rfl, hw1⟩
      rw [hw1]
      clear hw1 w1
      go_wp2_with fail
      refine ((HN _ _ (Rd.new (by first | rfl | simp) rfl)).out).mono ?_
      rintro e w2 ⟨rfl, hw2⟩
      have hx2 : Ext w w2 := by rw [← hw2]; exact ((Ext.refl w).alloc _).alloc _
      have hX : Bk w2 w.heap.size 46 #[.int .i64 k, .int .i64 px, .int .i64 py, .float .f32 sz, .int .i64 ag] := by rw [← hw2]; exact (Bk.new' rfl).alloc _
      have d0 := hX.cell 0
      have d3 := hX.cell 3
      have d4 := hX.cell 4
      have dk := hkc.out w2 hx2
      have hlX := hX.lt
      clear hw2 hX hkc HN HP
      go_wp2_with fail
      go_quiet (fail)
      go_wp2
      go_ret
      exact ⟨ret_i HE.out.symm, (by repeat (first | exact Ext.refl _ | assumption | refine Ext.setCell ?_ (by first | (simp; done) | (simp; omega)) _ | refine Ext.drewN ?_ _ | refine Ext.alloc ?_ _ | refine Ext.drew ?_ | refine Ext.trans ?_ (by assumption)))⟩
    · intro e1 e2 e3 e4
      have HE : Hid (plantE l ⟨(k : Int), px, py, sz, ag⟩ = 3) := by show _ = _; rw [HE.out]; simp [e1, e2, e4]; try omega
      have C1 : (FloatKind.f32.format.order sz 0 == some .lt) = false := e1
      have C2 : (FloatKind.f32.format.order sz t == some .gt) = false := e2
      have e3' : ¬ ag < 0 := by omega
      clear hz e1 e2
      go_enter Tryd.func76, Tryd.ntmps76
      go_wp2_with fail
      refine ((HP _).out).mono ?_
      rintro e w1 ⟨rfl, hw1⟩
      rw [hw1]
      clear hw1 w1
      go_wp2_with fail
      refine ((HN _ _ (Rd.new (by first | rfl | simp) rfl)).out).mono ?_
      rintro e w2 ⟨rfl, hw2⟩
      have hx2 : Ext w w2 := by rw [← hw2]; exact ((Ext.refl w).alloc _).alloc _
      have hX : Bk w2 w.heap.size 46 #[.int .i64 k, .int .i64 px, .int .i64 py, .float .f32 sz, .int .i64 ag] := by rw [← hw2]; exact (Bk.new' rfl).alloc _
      have d0 := hX.cell 0
      have d3 := hX.cell 3
      have d4 := hX.cell 4
      have dk := hkc.out w2 hx2
      have hlX := hX.lt
      clear hw2 hX hkc HN HP
      go_wp2_with fail
      go_quiet (fail)
      go_wp2
      go_ret
      exact ⟨ret_i HE.out.symm, (by repeat (first | exact Ext.refl _ | assumption | refine Ext.setCell ?_ (by first | (simp; done) | (simp; omega)) _ | refine Ext.drewN ?_ _ | refine Ext.alloc ?_ _ | refine Ext.drew ?_ | refine Ext.trans ?_ (by assumption)))⟩
    · intro e1 e2 e3 e4
      have HE : Hid (plantE l ⟨(k : Int), px, py, sz, ag⟩ = 0) := by show _ = _; rw [HE.out]; simp [e1, e2, e3, e4]; try omega
      have C1 : (FloatKind.f32.format.order sz 0 == some .lt) = false := e1
      have C2 : (FloatKind.f32.format.order sz t == some .gt) = false := e2
      have e3' : ¬ ag < 0 := by omega
      have e4' : ¬ 1000 < ag := by omega
      clear hz e1 e2
      go_enter Tryd.func76, Tryd.ntmps76
      go_wp2_with fail
      refine ((HP _).out).mono ?_
      rintro e w1 ⟨rfl, hw1⟩
      rw [hw1]
      clear hw1 w1
      go_wp2_with fail
      refine ((HN _ _ (Rd.new (by first | rfl | simp) rfl)).out).mono ?_
      rintro e w2 ⟨rfl, hw2⟩
      have hx2 : Ext w w2 := by rw [← hw2]; exact ((Ext.refl w).alloc _).alloc _
      have hX : Bk w2 w.heap.size 46 #[.int .i64 k, .int .i64 px, .int .i64 py, .float .f32 sz, .int .i64 ag] := by rw [← hw2]; exact (Bk.new' rfl).alloc _
      have d0 := hX.cell 0
      have d3 := hX.cell 3
      have d4 := hX.cell 4
      have dk := hkc.out w2 hx2
      have hlX := hX.lt
      clear hw2 hX hkc HN HP
      go_wp2_with fail
      go_quiet (fail)
      go_wp2
      go_ret
      exact ⟨ret_i HE.out.symm, (by repeat (first | exact Ext.refl _ | assumption | refine Ext.setCell ?_ (by first | (simp; done) | (simp; omega)) _ | refine Ext.drewN ?_ _ | refine Ext.alloc ?_ _ | refine Ext.drew ?_ | refine Ext.trans ?_ (by assumption)))⟩
  · have HE := hidA (plantE_num (l := l) (x := ⟨(k : Int), px, py, sz, ag⟩) h1 h2 h3)
    have HN := fun (A : Option Addr) (w : World) (hr : Rd w A (flt [sz])) => hidA (heights_any A 1 1 [sz] w rfl hr (by omega))
    have hE : PlantR.size ⟨(k : Int), px, py, sz, ag⟩ = sz := rfl
    rw [hE] at HE
    have b1 : (numE [sz] != 0) = true := by simpa using h3
    generalize numE [sz] = q at *
    clear h1 h2 h3 ht hn hE
    go_enter Tryd.func76, Tryd.ntmps76
    go_wp2_with fail
    refine ((HP _).out).mono ?_
    rintro e w1 ⟨rfl, hw1⟩
    rw [hw1]
    clear hw1 w1
    go_wp2_with fail
    refine ((HN _ _ (Rd.new (by first | rfl | simp) rfl)).out).mono ?_
    rintro e w2 ⟨rfl, hw2⟩
    rw [← hw2]
    clear hw2
    go_wp2
    go_ret
    exact ⟨ret_i HE.out.symm, (by repeat (first | exact Ext.refl _ | assumption | refine Ext.setCell ?_ (by first | (simp; done) | (simp; omega)) _ | refine Ext.drewN ?_ _ | refine Ext.alloc ?_ _ | refine Ext.drew ?_ | refine Ext.trans ?_ (by assumption)))⟩
end Go.Proofs.YtgaonoklbihkjaaDoor
