/- Contract: tarnref2.PlantsError. -/
import Derived.Test.YtgaonoklbihkjaaDoorPlantsD
namespace Go.Proofs.YtgaonoklbihkjaaDoor
open Go.RowKit
attribute [local go_sem ↓] Go.wp_at_zero Go.wp_at_succ
attribute [local go_sem] run_store_float

theorem plant_ways {l : List KindR} {x : PlantR} {C : Prop}
    (c1 : x.kind < 0 → plantE l x = 1 → C)
    (c2 : ¬ x.kind < 0 → (l.length : Int) ≤ x.kind → plantE l x = 1 → C)
    (c3 : ∀ k : Nat, x.kind = k → k < l.length → x.x < -4194304 → plantE l x = 5 → C)
    (c4 : ∀ k : Nat, x.kind = k → k < l.length → -4194304 ≤ x.x → 4194304 < x.x → plantE l x = 5 → C)
    (c5 : ∀ k : Nat, x.kind = k → k < l.length → -4194304 ≤ x.x → x.x ≤ 4194304 → x.y < -4194304 → plantE l x = 5 → C)
    (c6 : ∀ k : Nat, x.kind = k → k < l.length → -4194304 ≤ x.x → x.x ≤ 4194304 → -4194304 ≤ x.y → 4194304 < x.y → plantE l x = 5 → C)
    (c7 : ∀ k : Nat, x.kind = k → k < l.length → -4194304 ≤ x.x → x.x ≤ 4194304 → -4194304 ≤ x.y → x.y ≤ 4194304 → numE [x.size] ≠ 0 → plantE l x = numE [x.size] → C)
    (c8 : ∀ k : Nat, x.kind = k → k < l.length → -4194304 ≤ x.x → x.x ≤ 4194304 → -4194304 ≤ x.y → x.y ≤ 4194304 → numE [x.size] = 0 → lt x.size 0 = true → plantE l x = 3 → C)
    (c9 : ∀ k : Nat, x.kind = k → k < l.length → -4194304 ≤ x.x → x.x ≤ 4194304 → -4194304 ≤ x.y → x.y ≤ 4194304 → numE [x.size] = 0 → lt x.size 0 = false → gt x.size (topOf l x.kind) = true → plantE l x = 3 → C)
    (c10 : ∀ k : Nat, x.kind = k → k < l.length → -4194304 ≤ x.x → x.x ≤ 4194304 → -4194304 ≤ x.y → x.y ≤ 4194304 → numE [x.size] = 0 → lt x.size 0 = false → gt x.size (topOf l x.kind) = false → x.age < 0 → plantE l x = 3 → C)
    (c11 : ∀ k : Nat, x.kind = k → k < l.length → -4194304 ≤ x.x → x.x ≤ 4194304 → -4194304 ≤ x.y → x.y ≤ 4194304 → numE [x.size] = 0 → lt x.size 0 = false → gt x.size (topOf l x.kind) = false → 0 ≤ x.age → 1000 < x.age → plantE l x = 3 → C)
    (c12 : ∀ k : Nat, x.kind = k → k < l.length → -4194304 ≤ x.x → x.x ≤ 4194304 → -4194304 ≤ x.y → x.y ≤ 4194304 → numE [x.size] = 0 → lt x.size 0 = false → gt x.size (topOf l x.kind) = false → 0 ≤ x.age → x.age ≤ 1000 → plantE l x = 0 → C) : C := by
  by_cases h1 : x.kind < 0 ∨ (l.length : Int) ≤ x.kind
  · have HE : plantE l x = 1 := if_pos h1
    rcases h1 with h1 | h1
    · exact c1 h1 HE
    · by_cases h0 : x.kind < 0
      · exact c1 h0 HE
      · exact c2 h0 h1 HE
  obtain ⟨k, hk⟩ : ∃ k : Nat, x.kind = k := ⟨x.kind.toNat, by omega⟩
  have kl : k < l.length := by omega
  by_cases h2 : x.farB = true
  · have HE := plantE_far h1 h2
    unfold PlantR.farB at h2
    simp at h2
    by_cases e1 : x.x < -4194304
    · exact c3 k hk kl e1 HE
    by_cases e2 : 4194304 < x.x
    · exact c4 k hk kl (by omega) e2 HE
    by_cases e3 : x.y < -4194304
    · exact c5 k hk kl (by omega) (by omega) e3 HE
    · exact c6 k hk kl (by omega) (by omega) (by omega) (by omega) HE
  have h2 := (Bool.not_eq_true _).mp h2
  obtain ⟨r1, r2, r3, r4⟩ := far_no h2
  by_cases h3 : numE [x.size] = 0
  · by_cases h4 : x.badB l = true
    · have HE := plantE_bad h1 h2 h3 h4
      rcases bad_ways rfl h4 with e | ⟨e, f⟩ | ⟨e, f, g⟩ | ⟨e, f, g, h⟩
      · exact c8 k hk kl r1 r2 r3 r4 h3 e HE
      · exact c9 k hk kl r1 r2 r3 r4 h3 e f HE
      · exact c10 k hk kl r1 r2 r3 r4 h3 e f g HE
      · exact c11 k hk kl r1 r2 r3 r4 h3 e f g h HE
    · have h4 := (Bool.not_eq_true _).mp h4
      obtain ⟨e, f, g, h⟩ := bad_none rfl h4
      exact c12 k hk kl r1 r2 r3 r4 h3 e f g h (plantE_fine h1 h2 h3 h4)
  · exact c7 k hk kl r1 r2 r3 r4 h3 (plantE_num h1 h2 h3)

set_option maxRecDepth 100000 in
set_option maxHeartbeats 12800000 in
theorem plantsError_any (A : Option Addr) (n c : Nat) (l : List KindR) (B : Option Addr) (m d : Nat) (p : List PlantR) (w : World) (hn : l.length = n) (hd : Rd w A (kcells l)) (hb : n ≤ 4000000000000) (hc : n ≤ c) (hsz : ∀ x ∈ l, x.s.size ≤ 9223372036854775807) (hm : p.length = m) (hp : Rd w B (pcells p)) (hbm : m ≤ 4000000000000) :
    Calls Tryd.prog 10 #[.slice A n c, .slice B m d] w fun e w' => e = .returned (.int .i64 (plantsE l p)) ∧ Ext w w' := by
  have H1 := fun (w : World) (hd : Rd w A (kcells l)) => hidA (kindsError_any A n c l w hn hd hb hc hsz)
  by_cases h0 : kindsE l = 0
  case neg =>
    have HE : Hid (plantsE l p = kindsE l) := if_pos h0
    have b0 : (kindsE l != 0) = true := by simpa using h0
    generalize kindsE l = q at *
    clear h0 hn hm
    go_enter Tryd.func10, Tryd.ntmps10
    go_wp2_with fail
    refine ((H1 _ hd).out).mono ?_
    rintro e w1 ⟨rfl, hb1⟩
    go_wp2
    go_ret
    exact ⟨ret_i HE.out.symm, (by repeat (first | exact Ext.refl _ | assumption | refine Ext.setCell ?_ (by first | (simp; done) | (simp; omega)) _ | refine Ext.drewN ?_ _ | refine Ext.alloc ?_ _ | refine Ext.drew ?_ | refine Ext.trans ?_ (by assumption)))⟩
  have HE : Hid (plantsE l p = listE l p) := if_neg (by rw [h0]; decide)
  rw [h0] at H1
  clear h0 hsz
  by_cases h4 : 4000 < m
  · have HE : Hid (plantsE l p = 4) := by show _ = _; rw [HE.out]; exact if_pos (by omega)
    clear hn hm
    go_enter Tryd.func10, Tryd.ntmps10
    go_wp2_with fail
    refine ((H1 _ hd).out).mono ?_
    rintro e w1 ⟨rfl, hb1⟩
    go_wp2
    go_ret
    exact ⟨ret_i HE.out.symm, (by repeat (first | exact Ext.refl _ | assumption | refine Ext.setCell ?_ (by first | (simp; done) | (simp; omega)) _ | refine Ext.drewN ?_ _ | refine Ext.alloc ?_ _ | refine Ext.drew ?_ | refine Ext.trans ?_ (by assumption)))⟩
  have HE : Hid (plantsE l p = scanP l none p) := by show _ = _; rw [HE.out]; exact if_neg (by omega)
  have Hm := hidA hm
  have Hn := hidA hn
  clear hm hn
  go_enter Tryd.func10, Tryd.ntmps10
  go_wp2_with fail
  refine ((H1 _ hd).out).mono ?_
  rintro e w1 ⟨rfl, hb1⟩
  have hd1 := hd.ext hb1
  have hp1 := hp.ext hb1
  clear H1 hd hp
  go_wp2_with fail
  go_loopw [19] (fun i wr => ∃ k : Nat, k ≤ m ∧ i = .int .i64 k ∧ Hid (scanP l (prevP p k) (p.drop k) = scanP l none p) ∧ Ext w1 wr) (fun i _ => m - (intOf i).toNat)
  case atStart => exact ⟨0, Nat.zero_le _, rfl, rfl, (by repeat (first | exact Ext.refl _ | assumption | refine Ext.setCell ?_ (by first | (simp; done) | (simp; omega)) _ | refine Ext.drewN ?_ _ | refine Ext.alloc ?_ _ | refine Ext.drew ?_ | refine Ext.trans ?_ (by assumption)))⟩
  case round =>
    obtain ⟨k, hk, rfl, Ha, hx⟩ := hrel
    by_cases hlt : k < m
    · have hkl : k < p.length := by have := Hm.out; omega
      have Hst := hidA (scanP_step (l := l) hkl)
      obtain ⟨ad, rfl, hbk, _⟩ := hp1.at (k := k) (by rw [pcells_length]; omega)
      have hpw := hp1.ext hx
      have hdw := hd1.ext hx
      obtain ⟨d0, d1, d2, d3, d4⟩ := hpw.plant hkl
      have k0 : (0 : Int) ≤ k := by omega
      have k1 : (k : Int) < m := by omega
      generalize hxe : p[k] = x at *
      clear hxe
      obtain ⟨kd, px, py, sz, ag⟩ := x
      dsimp only at d0 d1 d2 d3 d4
      have HF : Hid (plantE l ⟨kd, px, py, sz, ag⟩ ≠ 0 → plantE l ⟨kd, px, py, sz, ag⟩ = plantsE l p) := fun he => by rw [HE.out, ← Ha.out, Hst.out, if_pos he]
      have HG : Hid (plantE l ⟨kd, px, py, sz, ag⟩ = 0 → scanP l none p = if behindB (prevP p k) ⟨kd, px, py, sz, ag⟩ = true then 8 else scanP l (prevP p (k + 1)) (p.drop (k + 1))) := fun he => by rw [← Ha.out, Hst.out, if_neg (by omega)]
      have HW : Hid (∀ C : Prop, _) := fun C => plant_ways (l := l) (x := ⟨kd, px, py, sz, ag⟩) (C := C)
      dsimp only at HW
      clear Hst Ha
      refine HW.out _ ?_ ?_ ?_ ?_ ?_ ?_ ?_ ?_ ?_ ?_ ?_ ?_
      · intro e1 he
        have HR : Hid (1 = plantsE l p) := by show _ = _; rw [← HF.out (by rw [he]; decide), he]
        clear HF HG HW he hpw 
        go_wp2
        go_ret
        exact ⟨ret_i HR.out, (by repeat (first | exact Ext.refl _ | assumption | refine Ext.setCell ?_ (by first | (simp; done) | (simp; omega)) _ | refine Ext.drewN ?_ _ | refine Ext.alloc ?_ _ | refine Ext.drew ?_ | refine Ext.trans ?_ (by assumption)))⟩
      · intro e0 e1 he
        have HR : Hid (1 = plantsE l p) := by show _ = _; rw [← HF.out (by rw [he]; decide), he]
        clear HF HG HW he hpw 
        rw [Hn.out] at e1
        go_wp2
        go_ret
        exact ⟨ret_i HR.out, (by repeat (first | exact Ext.refl _ | assumption | refine Ext.setCell ?_ (by first | (simp; done) | (simp; omega)) _ | refine Ext.drewN ?_ _ | refine Ext.alloc ?_ _ | refine Ext.drew ?_ | refine Ext.trans ?_ (by assumption)))⟩
      · intro q hq ql e1 he
        have HR : Hid (5 = plantsE l p) := by show _ = _; rw [← HF.out (by rw [he]; decide), he]
        clear HF HG HW he hpw 
        subst hq
        have z0 : ¬ (q : Int) < 0 := by omega
        have z1 : (q : Int) < n := by have := Hn.out; omega
        go_wp2
        go_ret
        exact ⟨ret_i HR.out, (by repeat (first | exact Ext.refl _ | assumption | refine Ext.setCell ?_ (by first | (simp; done) | (simp; omega)) _ | refine Ext.drewN ?_ _ | refine Ext.alloc ?_ _ | refine Ext.drew ?_ | refine Ext.trans ?_ (by assumption)))⟩
      · intro q hq ql e1 e2 he
        have HR : Hid (5 = plantsE l p) := by show _ = _; rw [← HF.out (by rw [he]; decide), he]
        clear HF HG HW he hpw 
        subst hq
        have z0 : ¬ (q : Int) < 0 := by omega
        have z1 : (q : Int) < n := by have := Hn.out; omega
        have e1 : ¬ px < -4194304 := by omega
        go_wp2
        go_ret
        exact ⟨ret_i HR.out, (by repeat (first | exact Ext.refl _ | assumption | refine Ext.setCell ?_ (by first | (simp; done) | (simp; omega)) _ | refine Ext.drewN ?_ _ | refine Ext.alloc ?_ _ | refine Ext.drew ?_ | refine Ext.trans ?_ (by assumption)))⟩
      · intro q hq ql e1 e2 e3 he
        have HR : Hid (5 = plantsE l p) := by show _ = _; rw [← HF.out (by rw [he]; decide), he]
        clear HF HG HW he hpw 
        subst hq
        have z0 : ¬ (q : Int) < 0 := by omega
        have z1 : (q : Int) < n := by have := Hn.out; omega
        have e1 : ¬ px < -4194304 := by omega
        have e2 : ¬ 4194304 < px := by omega
        go_wp2
        go_ret
        exact ⟨ret_i HR.out, (by repeat (first | exact Ext.refl _ | assumption | refine Ext.setCell ?_ (by first | (simp; done) | (simp; omega)) _ | refine Ext.drewN ?_ _ | refine Ext.alloc ?_ _ | refine Ext.drew ?_ | refine Ext.trans ?_ (by assumption)))⟩
      · intro q hq ql e1 e2 e3 e4 he
        have HR : Hid (5 = plantsE l p) := by show _ = _; rw [← HF.out (by rw [he]; decide), he]
        clear HF HG HW he hpw 
        subst hq
        have z0 : ¬ (q : Int) < 0 := by omega
        have z1 : (q : Int) < n := by have := Hn.out; omega
        have e1 : ¬ px < -4194304 := by omega
        have e2 : ¬ 4194304 < px := by omega
        have e3 : ¬ py < -4194304 := by omega
        go_wp2
        go_ret
        exact ⟨ret_i HR.out, (by repeat (first | exact Ext.refl _ | assumption | refine Ext.setCell ?_ (by first | (simp; done) | (simp; omega)) _ | refine Ext.drewN ?_ _ | refine Ext.alloc ?_ _ | refine Ext.drew ?_ | refine Ext.trans ?_ (by assumption)))⟩
      · intro q hq ql e1 e2 e3 e4 e5 he
        have HR : Hid (numE [sz] = plantsE l p) := by show _ = _; rw [← HF.out (by rw [he]; exact e5), he]
        have HN := fun (A : Option Addr) (w : World) (hr : Rd w A (flt [sz])) => hidA (numberError_any A 1 1 [sz] w rfl hr (by omega))
        have b1 : (numE [sz] != 0) = true := by simpa using e5
        generalize numE [sz] = r at *
        clear HF HG HW he hpw e5
        subst hq
        have z0 : ¬ (q : Int) < 0 := by omega
        have z1 : (q : Int) < n := by have := Hn.out; omega
        have e1 : ¬ px < -4194304 := by omega
        have e2 : ¬ 4194304 < px := by omega
        have e3 : ¬ py < -4194304 := by omega
        have e4 : ¬ 4194304 < py := by omega
        go_wp2_with fail
        refine ((HN _ _ (Rd.new (by first | rfl | simp) rfl)).out).mono ?_
        rintro e w2 ⟨rfl, hw2⟩
        rw [← hw2]
        clear hw2
        go_wp2
        go_ret
        exact ⟨ret_i HR.out, (by repeat (first | exact Ext.refl _ | assumption | refine Ext.setCell ?_ (by first | (simp; done) | (simp; omega)) _ | refine Ext.drewN ?_ _ | refine Ext.alloc ?_ _ | refine Ext.drew ?_ | refine Ext.trans ?_ (by assumption)))⟩
      · intro q hq ql e1 e2 e3 e4 e5 e6 he
        have HR : Hid (3 = plantsE l p) := by show _ = _; rw [← HF.out (by rw [he]; decide), he]
        have HN := fun (A : Option Addr) (w : World) (hr : Rd w A (flt [sz])) => hidA (numberError_any A 1 1 [sz] w rfl hr (by omega))
        rw [e5] at HN
        subst hq
        have ht := topOf_nat ql
        have z0 : ¬ (q : Int) < 0 := by omega
        have z2 : (0 : Int) ≤ q := by omega
        have z1 : (q : Int) < n := by have := Hn.out; omega
        obtain ⟨ak, rfl, hka, _⟩ := hdw.at (k := q) (by rw [kcells_length]; omega)
        have hkc := hidA (fun (w' : World) (h : Ext wr w') => ((hdw.ext h).kind ql).2.2.2.2.2.2.2.1)
        clear HF HG HW he e5
        clear ht
        generalize l[q].a6 = t at *
        have C1 : (FloatKind.f32.format.order sz 0 == some .lt) = true := e6
        clear e6
        have e1 : ¬ px < -4194304 := by omega
        have e2 : ¬ 4194304 < px := by omega
        have e3 : ¬ py < -4194304 := by omega
        have e4 : ¬ 4194304 < py := by omega
        go_wp2_with fail
        refine ((HN _ _ (Rd.new (by first | rfl | simp) rfl)).out).mono ?_
        rintro e w2 ⟨rfl, hw2⟩
        have hx2 : Ext wr w2 := by rw [← hw2]; exact ((Ext.refl wr).alloc _).alloc _
        have hX : Bk w2 wr.heap.size 46 #[.int .i64 q, .int .i64 px, .int .i64 py, .float .f32 sz, .int .i64 ag] := by rw [← hw2]; exact (Bk.new' rfl).alloc _
        have d0 := hX.cell 0
        have d3 := hX.cell 3
        have d4 := hX.cell 4
        have dk := hkc.out w2 hx2
        have hlX := hX.lt
        clear hw2 hX hkc HN hpw
        go_wp2_with fail
        go_quiet (fail)
        go_wp2
        go_ret
        exact ⟨ret_i HR.out, (by repeat (first | exact Ext.refl _ | assumption | refine Ext.setCell ?_ (by first | (simp; done) | (simp; omega)) _ | refine Ext.drewN ?_ _ | refine Ext.alloc ?_ _ | refine Ext.drew ?_ | refine Ext.trans ?_ (by assumption)))⟩
      · intro q hq ql e1 e2 e3 e4 e5 e6 e7 he
        have HR : Hid (3 = plantsE l p) := by show _ = _; rw [← HF.out (by rw [he]; decide), he]
        have HN := fun (A : Option Addr) (w : World) (hr : Rd w A (flt [sz])) => hidA (numberError_any A 1 1 [sz] w rfl hr (by omega))
        rw [e5] at HN
        subst hq
        have ht := topOf_nat ql
        have z0 : ¬ (q : Int) < 0 := by omega
        have z2 : (0 : Int) ≤ q := by omega
        have z1 : (q : Int) < n := by have := Hn.out; omega
        obtain ⟨ak, rfl, hka, _⟩ := hdw.at (k := q) (by rw [kcells_length]; omega)
        have hkc := hidA (fun (w' : World) (h : Ext wr w') => ((hdw.ext h).kind ql).2.2.2.2.2.2.2.1)
        clear HF HG HW he e5
        rw [ht] at e7
        clear ht
        generalize l[q].a6 = t at *
        have C1 : (FloatKind.f32.format.order sz 0 == some .lt) = false := e6
        have C2 : (FloatKind.f32.format.order sz t == some .gt) = true := e7
        clear e6 e7
        have e1 : ¬ px < -4194304 := by omega
        have e2 : ¬ 4194304 < px := by omega
        have e3 : ¬ py < -4194304 := by omega
        have e4 : ¬ 4194304 < py := by omega
        go_wp2_with fail
        refine ((HN _ _ (Rd.new (by first | rfl | simp) rfl)).out).mono ?_
        rintro e w2 ⟨rfl, hw2⟩
        have hx2 : Ext wr w2 := by rw [← hw2]; exact ((Ext.refl wr).alloc _).alloc _
        have hX : Bk w2 wr.heap.size 46 #[.int .i64 q, .int .i64 px, .int .i64 py, .float .f32 sz, .int .i64 ag] := by rw [← hw2]; exact (Bk.new' rfl).alloc _
        have d0 := hX.cell 0
        have d3 := hX.cell 3
        have d4 := hX.cell 4
        have dk := hkc.out w2 hx2
        have hlX := hX.lt
        clear hw2 hX hkc HN hpw
        go_wp2_with fail
        go_quiet (fail)
        go_wp2
        go_ret
        exact ⟨ret_i HR.out, (by repeat (first | exact Ext.refl _ | assumption | refine Ext.setCell ?_ (by first | (simp; done) | (simp; omega)) _ | refine Ext.drewN ?_ _ | refine Ext.alloc ?_ _ | refine Ext.drew ?_ | refine Ext.trans ?_ (by assumption)))⟩
      · intro q hq ql e1 e2 e3 e4 e5 e6 e7 e8 he
        have HR : Hid (3 = plantsE l p) := by show _ = _; rw [← HF.out (by rw [he]; decide), he]
        have HN := fun (A : Option Addr) (w : World) (hr : Rd w A (flt [sz])) => hidA (numberError_any A 1 1 [sz] w rfl hr (by omega))
        rw [e5] at HN
        subst hq
        have ht := topOf_nat ql
        have z0 : ¬ (q : Int) < 0 := by omega
        have z2 : (0 : Int) ≤ q := by omega
        have z1 : (q : Int) < n := by have := Hn.out; omega
        obtain ⟨ak, rfl, hka, _⟩ := hdw.at (k := q) (by rw [kcells_length]; omega)
        have hkc := hidA (fun (w' : World) (h : Ext wr w') => ((hdw.ext h).kind ql).2.2.2.2.2.2.2.1)
        clear HF HG HW he e5
        rw [ht] at e7
        clear ht
        generalize l[q].a6 = t at *
        have C1 : (FloatKind.f32.format.order sz 0 == some .lt) = false := e6
        have C2 : (FloatKind.f32.format.order sz t == some .gt) = false := e7
        clear e6 e7
        have e1 : ¬ px < -4194304 := by omega
        have e2 : ¬ 4194304 < px := by omega
        have e3 : ¬ py < -4194304 := by omega
        have e4 : ¬ 4194304 < py := by omega
        go_wp2_with fail
        refine ((HN _ _ (Rd.new (by first | rfl | simp) rfl)).out).mono ?_
        rintro e w2 ⟨rfl, hw2⟩
        have hx2 : Ext wr w2 := by rw [← hw2]; exact ((Ext.refl wr).alloc _).alloc _
        have hX : Bk w2 wr.heap.size 46 #[.int .i64 q, .int .i64 px, .int .i64 py, .float .f32 sz, .int .i64 ag] := by rw [← hw2]; exact (Bk.new' rfl).alloc _
        have d0 := hX.cell 0
        have d3 := hX.cell 3
        have d4 := hX.cell 4
        have dk := hkc.out w2 hx2
        have hlX := hX.lt
        clear hw2 hX hkc HN hpw
        go_wp2_with fail
        go_quiet (fail)
        go_wp2
        go_ret
        exact ⟨ret_i HR.out, (by repeat (first | exact Ext.refl _ | assumption | refine Ext.setCell ?_ (by first | (simp; done) | (simp; omega)) _ | refine Ext.drewN ?_ _ | refine Ext.alloc ?_ _ | refine Ext.drew ?_ | refine Ext.trans ?_ (by assumption)))⟩
      · intro q hq ql e1 e2 e3 e4 e5 e6 e7 e8 e9 he
        have HR : Hid (3 = plantsE l p) := by show _ = _; rw [← HF.out (by rw [he]; decide), he]
        have HN := fun (A : Option Addr) (w : World) (hr : Rd w A (flt [sz])) => hidA (numberError_any A 1 1 [sz] w rfl hr (by omega))
        rw [e5] at HN
        subst hq
        have ht := topOf_nat ql
        have z0 : ¬ (q : Int) < 0 := by omega
        have z2 : (0 : Int) ≤ q := by omega
        have z1 : (q : Int) < n := by have := Hn.out; omega
        obtain ⟨ak, rfl, hka, _⟩ := hdw.at (k := q) (by rw [kcells_length]; omega)
        have hkc := hidA (fun (w' : World) (h : Ext wr w') => ((hdw.ext h).kind ql).2.2.2.2.2.2.2.1)
        clear HF HG HW he e5
        rw [ht] at e7
        clear ht
        generalize l[q].a6 = t at *
        have C1 : (FloatKind.f32.format.order sz 0 == some .lt) = false := e6
        have C2 : (FloatKind.f32.format.order sz t == some .gt) = false := e7
        have e8 : ¬ ag < 0 := by omega
        clear e6 e7
        have e1 : ¬ px < -4194304 := by omega
        have e2 : ¬ 4194304 < px := by omega
        have e3 : ¬ py < -4194304 := by omega
        have e4 : ¬ 4194304 < py := by omega
        go_wp2_with fail
        refine ((HN _ _ (Rd.new (by first | rfl | simp) rfl)).out).mono ?_
        rintro e w2 ⟨rfl, hw2⟩
        have hx2 : Ext wr w2 := by rw [← hw2]; exact ((Ext.refl wr).alloc _).alloc _
        have hX : Bk w2 wr.heap.size 46 #[.int .i64 q, .int .i64 px, .int .i64 py, .float .f32 sz, .int .i64 ag] := by rw [← hw2]; exact (Bk.new' rfl).alloc _
        have d0 := hX.cell 0
        have d3 := hX.cell 3
        have d4 := hX.cell 4
        have dk := hkc.out w2 hx2
        have hlX := hX.lt
        clear hw2 hX hkc HN hpw
        go_wp2_with fail
        go_quiet (fail)
        go_wp2
        go_ret
        exact ⟨ret_i HR.out, (by repeat (first | exact Ext.refl _ | assumption | refine Ext.setCell ?_ (by first | (simp; done) | (simp; omega)) _ | refine Ext.drewN ?_ _ | refine Ext.alloc ?_ _ | refine Ext.drew ?_ | refine Ext.trans ?_ (by assumption)))⟩
      · intro q hq ql e1 e2 e3 e4 e5 e6 e7 e8 e9 he
        have HR := hidA (HG.out he)
        have HN := fun (A : Option Addr) (w : World) (hr : Rd w A (flt [sz])) => hidA (numberError_any A 1 1 [sz] w rfl hr (by omega))
        rw [e5] at HN
        subst hq
        have ht := topOf_nat ql
        have z0 : ¬ (q : Int) < 0 := by omega
        have z2 : (0 : Int) ≤ q := by omega
        have z1 : (q : Int) < n := by have := Hn.out; omega
        obtain ⟨ak, rfl, hka, _⟩ := hdw.at (k := q) (by rw [kcells_length]; omega)
        have hkc := hidA (fun (w' : World) (h : Ext wr w') => ((hdw.ext h).kind ql).2.2.2.2.2.2.2.1)
        clear HF HG HW he e5
        rw [ht] at e7
        clear ht
        generalize l[q].a6 = t at *
        have C1 : (FloatKind.f32.format.order sz 0 == some .lt) = false := e6
        have C2 : (FloatKind.f32.format.order sz t == some .gt) = false := e7
        have e8 : ¬ ag < 0 := by omega
        have e9 : ¬ 1000 < ag := by omega
        clear e6 e7
        have e1 : ¬ px < -4194304 := by omega
        have e2 : ¬ 4194304 < px := by omega
        have e3 : ¬ py < -4194304 := by omega
        have e4 : ¬ 4194304 < py := by omega
        go_wp2_with fail
        refine ((HN _ _ (Rd.new (by first | rfl | simp) rfl)).out).mono ?_
        rintro e w2 ⟨rfl, hw2⟩
        have hx2 : Ext wr w2 := by rw [← hw2]; exact ((Ext.refl wr).alloc _).alloc _
        have hX : Bk w2 wr.heap.size 46 #[.int .i64 q, .int .i64 px, .int .i64 py, .float .f32 sz, .int .i64 ag] := by rw [← hw2]; exact (Bk.new' rfl).alloc _
        have d0 := hX.cell 0
        have d3 := hX.cell 3
        have d4 := hX.cell 4
        have dk := hkc.out w2 hx2
        have hlX := hX.lt
        have hp2 := hpw.ext hx2
        have p0 : ∀ w', Ext w2 w' → w'.cell? ⟨wr.heap.size, 0, none⟩ = some (.int .i64 q) := fun w' h => (hX.ext h).cell 0
        have p1 : ∀ w', Ext w2 w' → w'.cell? ⟨wr.heap.size, 1, none⟩ = some (.int .i64 px) := fun w' h => (hX.ext h).cell 1
        have p2 : ∀ w', Ext w2 w' → w'.cell? ⟨wr.heap.size, 2, none⟩ = some (.int .i64 py) := fun w' h => (hX.ext h).cell 2
        have p3 : ∀ w', Ext w2 w' → w'.cell? ⟨wr.heap.size, 3, none⟩ = some (.float .f32 sz) := fun w' h => (hX.ext h).cell 3
        have p4 : ∀ w', Ext w2 w' → w'.cell? ⟨wr.heap.size, 4, none⟩ = some (.int .i64 ag) := fun w' h => (hX.ext h).cell 4
        clear hw2 hX hkc HN hpw
        go_wp2_with fail
        go_quiet (fail)
        clear dk d0 d3 d4 C1 C2
        rcases k with _ | j
        · have HQ : Hid (scanP l (prevP p 1) (p.drop 1) = scanP l none p) := by show _ = _; rw [HR.out, prevP_zero]; rfl
          clear HR hp2
          go_wp2_with fail
          refine wp_region_noPanic ?_
          refine wp_region_held_drew (S := fun w' => Ext w2 w') (by kernel_rfl) ?_ (fun hHeld => ?_)
          · (repeat (first | exact Ext.refl _ | assumption | refine Ext.setCell ?_ (by first | (simp; done) | (simp; omega)) _ | refine Ext.drewN ?_ _ | refine Ext.alloc ?_ _ | refine Ext.drew ?_ | refine Ext.trans ?_ (by assumption)))
          refine wpAnyH_take (i := 0) (oi := ?o1x0) (v := ?v1x0) ?hi1x0 (by kernel_rfl) ?hf1x0 ?hr1x0 (fun _ _ _ h => h) ?hy1x0 (by assumption) ?rest1x0
          case hi1x0 => (simp only [List.getElem?_toArray, List.getElem?_cons_zero]; exact rfl)
          case hf1x0 => kernel_rfl
          case hr1x0 => kernel_rfl
          case hy1x0 => (refine Or.inl ⟨by rfl, ?_⟩; intro w hSw; (try dsimp only at hSw); go_simp; try with_reducible rfl)
          simp only [put_mk, List.set_cons_succ, List.set_cons_zero]
          refine wpAnyH_take (i := 1) (oi := ?o1x1) (v := ?v1x1) ?hi1x1 (by kernel_rfl) ?hf1x1 ?hr1x1 (fun _ _ _ h => h) ?hy1x1 (by assumption) ?rest1x1
          case hi1x1 => (simp only [List.getElem?_toArray, List.getElem?_cons_succ, List.getElem?_cons_zero]; exact rfl)
          case hf1x1 => kernel_rfl
          case hr1x1 => kernel_rfl
          case hy1x1 => (refine Or.inl ⟨by rfl, ?_⟩; intro w hSw; (try dsimp only at hSw); go_simp; try with_reducible rfl)
          simp only [put_mk, List.set_cons_succ, List.set_cons_zero]
          refine wpAnyH_take (i := 2) (oi := ?o1x2) (v := ?v1x2) ?hi1x2 (by kernel_rfl) ?hf1x2 ?hr1x2 (fun _ _ _ h => h) ?hy1x2 (by assumption) ?rest1x2
          case hi1x2 => (simp only [List.getElem?_toArray, List.getElem?_cons_succ, List.getElem?_cons_zero]; exact rfl)
          case hf1x2 => kernel_rfl
          case hr1x2 => kernel_rfl
          case hy1x2 => (refine Or.inl ⟨by rfl, ?_⟩; intro w hSw; (try dsimp only at hSw); go_simp; try with_reducible rfl)
          simp only [put_mk, List.set_cons_succ, List.set_cons_zero]
          refine wpAnyH_take (i := 3) (oi := ?o1x3) (v := undef) ?hi1x3 (by kernel_rfl) ?hf1x3 ?hr1x3 (fun _ _ _ h => h) ?hy1x3 (by assumption) ?rest1x3
          case hi1x3 => (simp only [List.getElem?_toArray, List.getElem?_cons_succ, List.getElem?_cons_zero]; exact rfl)
          case hf1x3 => kernel_rfl
          case hr1x3 => kernel_rfl
          case hy1x3 => exact Or.inr ⟨by rfl, rfl⟩
          simp only [put_mk, List.set_cons_succ, List.set_cons_zero]
          refine wpAnyH_take (i := 4) (oi := ?o1x4) (v := undef) ?hi1x4 (by kernel_rfl) ?hf1x4 ?hr1x4 (fun _ _ _ h => h) ?hy1x4 (by assumption) ?rest1x4
          case hi1x4 => (simp only [List.getElem?_toArray, List.getElem?_cons_succ, List.getElem?_cons_zero]; exact rfl)
          case hf1x4 => kernel_rfl
          case hr1x4 => kernel_rfl
          case hy1x4 => exact Or.inr ⟨by rfl, rfl⟩
          simp only [put_mk, List.set_cons_succ, List.set_cons_zero]
          refine wpAnyH_take (i := 5) (oi := ?o1x5) (v := undef) ?hi1x5 (by kernel_rfl) ?hf1x5 ?hr1x5 (fun _ _ _ h => h) ?hy1x5 (by assumption) ?rest1x5
          case hi1x5 => (simp only [List.getElem?_toArray, List.getElem?_cons_succ, List.getElem?_cons_zero]; exact rfl)
          case hf1x5 => kernel_rfl
          case hr1x5 => kernel_rfl
          case hy1x5 => exact Or.inr ⟨by rfl, rfl⟩
          simp only [put_mk, List.set_cons_succ, List.set_cons_zero]
          refine wpAnyH_take (i := 6) (oi := ?o1x6) (v := undef) ?hi1x6 (by kernel_rfl) ?hf1x6 ?hr1x6 (fun _ _ _ h => h) ?hy1x6 (by assumption) ?rest1x6
          case hi1x6 => (simp only [List.getElem?_toArray, List.getElem?_cons_succ, List.getElem?_cons_zero]; exact rfl)
          case hf1x6 => kernel_rfl
          case hr1x6 => kernel_rfl
          case hy1x6 => exact Or.inr ⟨by rfl, rfl⟩
          simp only [put_mk, List.set_cons_succ, List.set_cons_zero]
          refine wpAnyH_take (i := 7) (oi := ?o1x7) (v := undef) ?hi1x7 (by kernel_rfl) ?hf1x7 ?hr1x7 (fun _ _ _ h => h) ?hy1x7 (by assumption) ?rest1x7
          case hi1x7 => (simp only [List.getElem?_toArray, List.getElem?_cons_succ, List.getElem?_cons_zero]; exact rfl)
          case hf1x7 => kernel_rfl
          case hr1x7 => kernel_rfl
          case hy1x7 => exact Or.inr ⟨by rfl, rfl⟩
          simp only [put_mk, List.set_cons_succ, List.set_cons_zero]
          refine wpAnyH_take (i := 8) (oi := ?o1x8) (v := undef) ?hi1x8 (by kernel_rfl) ?hf1x8 ?hr1x8 (fun _ _ _ h => h) ?hy1x8 (by assumption) ?rest1x8
          case hi1x8 => (simp only [List.getElem?_toArray, List.getElem?_cons_succ, List.getElem?_cons_zero]; exact rfl)
          case hf1x8 => kernel_rfl
          case hr1x8 => kernel_rfl
          case hy1x8 => exact Or.inr ⟨by rfl, rfl⟩
          simp only [put_mk, List.set_cons_succ, List.set_cons_zero]
          refine wpAnyH_take (i := 9) (oi := ?o1x9) (v := undef) ?hi1x9 (by kernel_rfl) ?hf1x9 ?hr1x9 (fun _ _ _ h => h) ?hy1x9 (by assumption) ?rest1x9
          case hi1x9 => (simp only [List.getElem?_toArray, List.getElem?_cons_succ, List.getElem?_cons_zero]; exact rfl)
          case hf1x9 => kernel_rfl
          case hr1x9 => kernel_rfl
          case hy1x9 => exact Or.inr ⟨by rfl, rfl⟩
          simp only [put_mk, List.set_cons_succ, List.set_cons_zero]
          refine wpAnyH_take (i := 10) (oi := ?o1x10) (v := undef) ?hi1x10 (by kernel_rfl) ?hf1x10 ?hr1x10 (fun _ _ _ h => h) ?hy1x10 (by assumption) ?rest1x10
          case hi1x10 => (simp only [List.getElem?_toArray, List.getElem?_cons_succ, List.getElem?_cons_zero]; exact rfl)
          case hf1x10 => kernel_rfl
          case hr1x10 => kernel_rfl
          case hy1x10 => exact Or.inr ⟨by rfl, rfl⟩
          simp only [put_mk, List.set_cons_succ, List.set_cons_zero]
          refine wpAnyH_take (i := 11) (oi := ?o1x11) (v := ?v1x11) ?hi1x11 (by kernel_rfl) ?hf1x11 ?hr1x11 (fun _ _ _ h => h) ?hy1x11 (by assumption) ?rest1x11
          case hi1x11 => (simp only [List.getElem?_toArray, List.getElem?_cons_succ, List.getElem?_cons_zero]; exact rfl)
          case hf1x11 => kernel_rfl
          case hr1x11 => kernel_rfl
          case hy1x11 => (refine Or.inl ⟨by rfl, ?_⟩; intro w hSw; (try dsimp only at hSw); go_simp; try with_reducible rfl)
          simp only [put_mk, List.set_cons_succ, List.set_cons_zero]
          refine wpAnyH_done (by kernel_rfl) ?_ _
          refine NoPanic.normal ?_
          go_wp2_with fail
          go_roundw
          case rel => exact ⟨1, by omega, by first | rfl | go_num, HQ, (by repeat (first | exact Ext.refl _ | assumption | refine Ext.setCell ?_ (by first | (simp; done) | (simp; omega)) _ | refine Ext.drewN ?_ _ | refine Ext.alloc ?_ _ | refine Ext.drew ?_ | refine Ext.trans ?_ (by assumption)))⟩
          case measure => simp [intOf]; omega
        · have hjl : j < p.length := by omega
          have hj : j < m := by omega
          have Hst3 : Hid (scanP l none p = if (!aheadB p[j] ⟨(q : Int), px, py, sz, ag⟩) = true then 8 else scanP l (prevP p (j + 1 + 1)) (p.drop (j + 1 + 1))) := by show _ = _; rw [HR.out, prevP_succ hjl]; rfl
          have q0 : ∀ w', Ext w2 w' → w'.cell? (ad.add (j * 5)) = some (.int .i64 p[j].kind) := fun w' h => ((hp2.ext h).plant hjl).1
          have q1 : ∀ w', Ext w2 w' → w'.cell? ⟨(ad.add (j * 5)).block, (ad.add (j * 5)).off + 1, none⟩ = some (.int .i64 p[j].x) := fun w' h => ((hp2.ext h).plant hjl).2.1
          have q2 : ∀ w', Ext w2 w' → w'.cell? ⟨(ad.add (j * 5)).block, (ad.add (j * 5)).off + 2, none⟩ = some (.int .i64 p[j].y) := fun w' h => ((hp2.ext h).plant hjl).2.2.1
          have q3 : ∀ w', Ext w2 w' → w'.cell? ⟨(ad.add (j * 5)).block, (ad.add (j * 5)).off + 3, none⟩ = some (.float .f32 p[j].size) := fun w' h => ((hp2.ext h).plant hjl).2.2.2.1
          have q4 : ∀ w', Ext w2 w' → w'.cell? ⟨(ad.add (j * 5)).block, (ad.add (j * 5)).off + 4, none⟩ = some (.int .i64 p[j].age) := fun w' h => ((hp2.ext h).plant hjl).2.2.2.2
          generalize p[j] = y at *
          clear HR hp2
          have kj : ((j + 1 : Nat) : Int) - 1 = j := by omega
          have k2 : (0 : Int) < ((j + 1 : Nat) : Int) := by omega
          have j0 : (0 : Int) ≤ j := by omega
          have j1 : (j : Int) < m := by omega
          have jw : IntKind.i64.wrap (j : Int) = j := IntWalk.i64_in _ (by omega)
          generalize hze : ((j + 1 : Nat) : Int) = z at *
          have Hze := hidA hze
          clear hze
          have HA2 := fun (w : World) => hidA (ahead_any y ⟨(q : Int), px, py, sz, ag⟩ w)
          simp only [PlantR.v] at HA2
          generalize aheadB y ⟨(q : Int), px, py, sz, ag⟩ = b at *
          go_wp2_with fail
          refine wp_region_noPanic ?_
          refine wp_region_held_drew (S := fun w' => Ext w2 w') (by kernel_rfl) ?_ (fun hHeld => ?_)
          · (repeat (first | exact Ext.refl _ | assumption | refine Ext.setCell ?_ (by first | (simp; done) | (simp; omega)) _ | refine Ext.drewN ?_ _ | refine Ext.alloc ?_ _ | refine Ext.drew ?_ | refine Ext.trans ?_ (by assumption)))
          refine wpAnyH_take (i := 0) (oi := ?o2x0) (v := ?v2x0) ?hi2x0 (by kernel_rfl) ?hf2x0 ?hr2x0 (fun _ _ _ h => h) ?hy2x0 (by assumption) ?rest2x0
          case hi2x0 => (simp only [List.getElem?_toArray, List.getElem?_cons_zero]; exact rfl)
          case hf2x0 => kernel_rfl
          case hr2x0 => kernel_rfl
          case hy2x0 => (refine Or.inl ⟨by rfl, ?_⟩; intro w hSw; (try dsimp only at hSw); go_simp; try with_reducible rfl)
          simp only [put_mk, List.set_cons_succ, List.set_cons_zero]
          refine wpAnyH_take (i := 1) (oi := ?o2x1) (v := ?v2x1) ?hi2x1 (by kernel_rfl) ?hf2x1 ?hr2x1 (fun _ _ _ h => h) ?hy2x1 (by assumption) ?rest2x1
          case hi2x1 => (simp only [List.getElem?_toArray, List.getElem?_cons_succ, List.getElem?_cons_zero]; exact rfl)
          case hf2x1 => kernel_rfl
          case hr2x1 => kernel_rfl
          case hy2x1 => (refine Or.inl ⟨by rfl, ?_⟩; intro w hSw; (try dsimp only at hSw); go_simp; try with_reducible rfl)
          simp only [put_mk, List.set_cons_succ, List.set_cons_zero]
          refine wpAnyH_take (i := 2) (oi := ?o2x2) (v := ?v2x2) ?hi2x2 (by kernel_rfl) ?hf2x2 ?hr2x2 (fun _ _ _ h => h) ?hy2x2 (by assumption) ?rest2x2
          case hi2x2 => (simp only [List.getElem?_toArray, List.getElem?_cons_succ, List.getElem?_cons_zero]; exact rfl)
          case hf2x2 => kernel_rfl
          case hr2x2 => kernel_rfl
          case hy2x2 => (refine Or.inl ⟨by rfl, ?_⟩; intro w hSw; (try dsimp only at hSw); go_simp; try with_reducible rfl)
          simp only [put_mk, List.set_cons_succ, List.set_cons_zero]
          refine wpAnyH_take (i := 3) (oi := ?o2x3) (v := ?v2x3) ?hi2x3 (by kernel_rfl) ?hf2x3 ?hr2x3 (fun _ _ _ h => h) ?hy2x3 (by assumption) ?rest2x3
          case hi2x3 => (simp only [List.getElem?_toArray, List.getElem?_cons_succ, List.getElem?_cons_zero]; exact rfl)
          case hf2x3 => kernel_rfl
          case hr2x3 => kernel_rfl
          case hy2x3 => (refine Or.inl ⟨by rfl, ?_⟩; intro w hSw; (try dsimp only at hSw); go_simp; try with_reducible rfl)
          simp only [put_mk, List.set_cons_succ, List.set_cons_zero]
          refine wpAnyH_take (i := 4) (oi := ?o2x4) (v := ?v2x4) ?hi2x4 (by kernel_rfl) ?hf2x4 ?hr2x4 (fun _ _ _ h => h) ?hy2x4 (by assumption) ?rest2x4
          case hi2x4 => (simp only [List.getElem?_toArray, List.getElem?_cons_succ, List.getElem?_cons_zero]; exact rfl)
          case hf2x4 => kernel_rfl
          case hr2x4 => kernel_rfl
          case hy2x4 => (refine Or.inl ⟨by rfl, ?_⟩; intro w hSw; (try dsimp only at hSw); go_simp; try with_reducible rfl)
          simp only [put_mk, List.set_cons_succ, List.set_cons_zero]
          refine wpAnyH_take (i := 5) (oi := ?o2x5) (v := ?v2x5) ?hi2x5 (by kernel_rfl) ?hf2x5 ?hr2x5 (fun _ _ _ h => h) ?hy2x5 (by assumption) ?rest2x5
          case hi2x5 => (simp only [List.getElem?_toArray, List.getElem?_cons_succ, List.getElem?_cons_zero]; exact rfl)
          case hf2x5 => kernel_rfl
          case hr2x5 => kernel_rfl
          case hy2x5 => (refine Or.inl ⟨by rfl, ?_⟩; intro w hSw; (try dsimp only at hSw); go_simp; try with_reducible rfl)
          simp only [put_mk, List.set_cons_succ, List.set_cons_zero]
          refine wpAnyH_take (i := 6) (oi := ?o2x6) (v := ?v2x6) ?hi2x6 (by kernel_rfl) ?hf2x6 ?hr2x6 (fun _ _ _ h => h) ?hy2x6 (by assumption) ?rest2x6
          case hi2x6 => (simp only [List.getElem?_toArray, List.getElem?_cons_succ, List.getElem?_cons_zero]; exact rfl)
          case hf2x6 => kernel_rfl
          case hr2x6 => kernel_rfl
          case hy2x6 => (refine Or.inl ⟨by rfl, ?_⟩; intro w hSw; (try dsimp only at hSw); go_simp; try with_reducible rfl)
          simp only [put_mk, List.set_cons_succ, List.set_cons_zero]
          refine wpAnyH_take (i := 7) (oi := ?o2x7) (v := ?v2x7) ?hi2x7 (by kernel_rfl) ?hf2x7 ?hr2x7 (fun _ _ _ h => h) ?hy2x7 (by assumption) ?rest2x7
          case hi2x7 => (simp only [List.getElem?_toArray, List.getElem?_cons_succ, List.getElem?_cons_zero]; exact rfl)
          case hf2x7 => kernel_rfl
          case hr2x7 => kernel_rfl
          case hy2x7 => (refine Or.inl ⟨by rfl, ?_⟩; intro w hSw; (try dsimp only at hSw); go_simp; try with_reducible rfl)
          simp only [put_mk, List.set_cons_succ, List.set_cons_zero]
          refine wpAnyH_take (i := 8) (oi := ?o2x8) (v := ?v2x8) ?hi2x8 (by kernel_rfl) ?hf2x8 ?hr2x8 (fun _ _ _ h => h) ?hy2x8 (by assumption) ?rest2x8
          case hi2x8 => (simp only [List.getElem?_toArray, List.getElem?_cons_succ, List.getElem?_cons_zero]; exact rfl)
          case hf2x8 => kernel_rfl
          case hr2x8 => kernel_rfl
          case hy2x8 => (refine Or.inl ⟨by rfl, ?_⟩; intro w hSw; (try dsimp only at hSw); go_simp; try with_reducible rfl)
          simp only [put_mk, List.set_cons_succ, List.set_cons_zero]
          refine wpAnyH_ready (rs := [9]) (by kernel_rfl) (by simp) ?_
          refine AllReadyH.cons (o := ?o2x9) ?hi2x9 (fun K hK => ?_) AllReadyH.nil
          case hi2x9 => (simp only [List.getElem?_toArray, List.getElem?_cons_succ, List.getElem?_cons_zero]; exact rfl)
          go_simp
          refine ((HA2 _).out).mono ?_
          rintro e w6 ⟨rfl, hb6⟩
          refine hK.out _ _ ?_ (fun hHeld => ?_)
          · (repeat (first | exact Ext.refl _ | assumption | refine Ext.setCell ?_ (by first | (simp; done) | (simp; omega)) _ | refine Ext.drewN ?_ _ | refine Ext.alloc ?_ _ | refine Ext.drew ?_ | refine Ext.trans ?_ (by assumption)))
          clear hK K
          refine wpAnyH_take (i := 10) (oi := ?o2x10) (v := ?v2x10) ?hi2x10 (by kernel_rfl) ?hf2x10 ?hr2x10 (fun _ _ _ h => h) ?hy2x10 (by assumption) ?rest2x10
          case hi2x10 => (simp only [List.getElem?_toArray, List.getElem?_cons_succ, List.getElem?_cons_zero]; exact rfl)
          case hf2x10 => kernel_rfl
          case hr2x10 => kernel_rfl
          case hy2x10 => (refine Or.inl ⟨by rfl, ?_⟩; intro w hSw; (try dsimp only at hSw); go_simp; try with_reducible rfl)
          simp only [put_mk, List.set_cons_succ, List.set_cons_zero]
          refine wpAnyH_take (i := 11) (oi := ?o2x11) (v := ?v2x11) ?hi2x11 (by kernel_rfl) ?hf2x11 ?hr2x11 (fun _ _ _ h => h) ?hy2x11 (by assumption) ?rest2x11
          case hi2x11 => (simp only [List.getElem?_toArray, List.getElem?_cons_succ, List.getElem?_cons_zero]; exact rfl)
          case hf2x11 => kernel_rfl
          case hr2x11 => kernel_rfl
          case hy2x11 => (refine Or.inl ⟨by rfl, ?_⟩; intro w hSw; (try dsimp only at hSw); go_simp; try with_reducible rfl)
          simp only [put_mk, List.set_cons_succ, List.set_cons_zero]
          refine wpAnyH_done (by kernel_rfl) ?_ _
          refine NoPanic.normal ?_
          cases b
          · have hN : Hid (8 = plantsE l p) := by
              show _ = _
              rw [HE.out, Hst3.out]
              rfl
            go_wp2
            go_ret
            exact ⟨ret_i hN.out, (by repeat (first | exact Ext.refl _ | assumption | refine Ext.setCell ?_ (by first | (simp; done) | (simp; omega)) _ | refine Ext.drewN ?_ _ | refine Ext.alloc ?_ _ | refine Ext.drew ?_ | refine Ext.trans ?_ (by assumption)))⟩
          · have hN : Hid (scanP l (prevP p (j + 1 + 1)) (p.drop (j + 1 + 1)) = scanP l none p) := by
              show _ = _
              rw [Hst3.out]
              rfl
            go_wp2_with fail
            go_roundw
            case rel => exact ⟨j + 1 + 1, by omega, by first | (rw [← Hze.out]; go_num) | (rw [← Hze.out]; rfl), hN, (by repeat (first | exact Ext.refl _ | assumption | refine Ext.setCell ?_ (by first | (simp; done) | (simp; omega)) _ | refine Ext.drewN ?_ _ | refine Ext.alloc ?_ _ | refine Ext.drew ?_ | refine Ext.trans ?_ (by assumption)))⟩
            case measure => have := Hze.out; simp [intOf]; omega
    · obtain rfl : k = m := by omega
      have Hst2 : Hid (0 = plantsE l p) := by
        show _ = _
        rw [HE.out, ← Ha.out, scanP_end (by have := Hm.out; omega)]
      go_wp2
      go_ret
      exact ⟨ret_i Hst2.out, (by repeat (first | exact Ext.refl _ | assumption | refine Ext.setCell ?_ (by first | (simp; done) | (simp; omega)) _ | refine Ext.drewN ?_ _ | refine Ext.alloc ?_ _ | refine Ext.drew ?_ | refine Ext.trans ?_ (by assumption)))⟩
end Go.Proofs.YtgaonoklbihkjaaDoor
