/- Cells of a region in the reference: Place, Neighbour, Edge; water.point; water.Neighbours at whatever closure. -/
import Derived.Test.YtinohfgokpbcdaaGridA
import Derived.Deep.DeepCutAuto
namespace Go.Proofs.Ytinohfgokpbcdaa
open Go.RowKit
attribute [local go_sem ↓] Go.wp_at_zero Go.wp_at_succ

def placeK (X Y W : Int) (k : Nat) : Int × Int := (X + ((k % W.toNat : Nat) : Int), Y + ((k / W.toNat : Nat) : Int))
theorem placeK_in {X Y W H : Int} (hr : RegOk X Y W H) {k n : Nat} (hn : (n : Int) = W * H) (hk : k < n) : InR X Y W H (placeK X Y W k).1 (placeK X Y W k).2 := by
  unfold RegOk at hr
  obtain ⟨Wn, rfl⟩ := Int.eq_ofNat_of_zero_le (show 0 ≤ W by omega)
  obtain ⟨Hn, rfl⟩ := Int.eq_ofNat_of_zero_le (show 0 ≤ H by omega)
  have h1 : k % Wn < Wn := Nat.mod_lt _ (by omega)
  have hn' : n = Wn * Hn := by rw [← Int.natCast_mul] at hn; exact Int.ofNat.inj hn
  have h2 : k / Wn < Hn := Nat.div_lt_of_lt_mul (by rw [← hn']; exact hk)
  unfold InR placeK
  simp only [Int.toNat_natCast]
  generalize k % Wn = g at *
  generalize k / Wn = h at *
  omega

theorem place_facts {k Wn : Nat} {X Y : Int} (hk : k ≤ 65536) (h1 : 1 ≤ Wn) (h2 : Wn ≤ 512) (hX1 : -4194304 ≤ X) (hX2 : X ≤ 4194304) (hY1 : -4194304 ≤ Y) (hY2 : Y ≤ 4194304) :
    wrap64 ((k : Int) / (Wn : Int)) = (k : Int) / (Wn : Int) ∧ wrap64 (Y + (k : Int) / (Wn : Int)) = Y + (k : Int) / (Wn : Int) ∧ IntKind.i64.wrap (X + (k : Int) % (Wn : Int)) = X + (k : Int) % (Wn : Int) ∧
      (-8388608 ≤ X + (k : Int) % (Wn : Int) ∧ X + (k : Int) % (Wn : Int) ≤ 8388608) ∧ (-8388608 ≤ Y + (k : Int) / (Wn : Int) ∧ Y + (k : Int) / (Wn : Int) ≤ 8388608) := by
  have a1 : 0 ≤ (k : Int) % (Wn : Int) := Int.emod_nonneg _ (by omega)
  have a2 : (k : Int) % (Wn : Int) < Wn := Int.emod_lt_of_pos _ (by omega)
  have a3 : 0 ≤ (k : Int) / (Wn : Int) := Int.ediv_nonneg (by omega) (by omega)
  have a4 : (k : Int) / (Wn : Int) ≤ k := Int.ediv_le_self _ (by omega)
  generalize (k : Int) % (Wn : Int) = a at *
  generalize (k : Int) / (Wn : Int) = b at *
  refine ⟨by unfold wrap64; omega, by unfold wrap64; omega, IntWalk.i64_in _ (by omega), by omega, by omega⟩

set_option maxRecDepth 100000 in
set_option maxHeartbeats 1600000 in
theorem Place_any (X Y W H : Int) (k : Nat) (w : World) (hr : RegOk X Y W H) (hk : k ≤ 65536) :
    Calls Try.prog 28 #[.agg #[.int .i64 X, .int .i64 Y, .int .i64 W, .int .i64 H], .int .i64 k] w fun e w' => e = .returned (.tuple #[.int .i64 (placeK X Y W k).1, .int .i64 (placeK X Y W k).2]) ∧ Ext w w' := by
  unfold RegOk at hr
  obtain ⟨r1, r2, r3, r4, r5, r6, r7, r8⟩ := hr
  obtain ⟨Wn, rfl⟩ := Int.eq_ofNat_of_zero_le (show 0 ≤ W by omega)
  obtain ⟨y1, y2, z6, _, _⟩ := place_facts (k := k) (Wn := Wn) (X := X) (Y := Y) hk (by omega) (by omega) (by omega) (by omega) (by omega) (by omega)
  go_enter Try.func28, Try.ntmps28
  go_wp2
  go_quiet (fail)
  go_wp2
  go_ret2
  exact ⟨by simp [placeK], (by repeat (first | exact Ext.refl _ | assumption | refine Ext.setCell ?_ (by first | (simp; done) | (simp; omega)) _ | refine Ext.drewN ?_ _ | refine Ext.alloc ?_ _ | refine Ext.drew ?_ | refine Ext.trans ?_ (by assumption)))⟩

theorem cell_place {X Y W : Int} (hW : 1 ≤ W) (k : Nat) : cellN X Y W (placeK X Y W k).1 (placeK X Y W k).2 = k := by
  obtain ⟨Wn, rfl⟩ := Int.eq_ofNat_of_zero_le (show 0 ≤ W by omega)
  unfold cellN placeK
  simp only [Int.toNat_natCast]
  have h1 := Nat.div_add_mod k Wn
  have h2 : ((Wn * (k / Wn) + k % Wn : Nat) : Int) = (k : Int) := by rw [h1]
  rw [Int.natCast_add, Int.natCast_mul] at h2
  rw [show Y + ((k / Wn : Nat) : Int) - Y = ((k / Wn : Nat) : Int) by omega, Int.mul_comm]
  generalize (Wn : Int) * ((k / Wn : Nat) : Int) = a at *
  omega

theorem hasAt (X Y W H x y : Int) (b : Bool) (w : World) (h : hasB X Y W H x y = b) :
    Calls Try.prog 59 #[.agg #[.int .i64 X, .int .i64 Y, .int .i64 W, .int .i64 H], .int .i64 x, .int .i64 y] w fun e w' => e = .returned (.bool b) ∧ Ext w w' :=
  h ▸ has_any X Y W H x y w
def nbOf (x y d : Int) : Int × Int := (x + stepX d, y + stepY d)
def nbE (X Y W H x y d : Int) : Int := if InR X Y W H (nbOf x y d).1 (nbOf x y d).2 then cellN X Y W (nbOf x y d).1 (nbOf x y d).2 else -1
set_option maxRecDepth 100000 in
set_option maxHeartbeats 3200000 in
theorem neighbour_any (X Y W H d x y : Int) (k n : Nat) (w : World) (hxy : placeK X Y W k = (x, y)) (hr : RegOk X Y W H) (hnw : (n : Int) = W * H) (hk : k < n) (hn : n ≤ 65536) (h0 : 0 ≤ d) (h8 : d < 8) :
    Calls Try.prog 63 #[.agg #[.int .i64 X, .int .i64 Y, .int .i64 W, .int .i64 H], .int .i64 k, .int .i64 d] w fun e w' =>
      e = .returned (.int .i64 (nbE X Y W H x y d)) ∧ Ext w w' := by
  have hi := placeK_in hr hnw hk
  rw [hxy] at hi
  have Hr := hidA hr
  have Hxy := hidA hxy
  have hpb : -4194304 ≤ x ∧ x ≤ 4194304 ∧ -4194304 ≤ y ∧ y ≤ 4194304 := by
    unfold RegOk at hr
    unfold InR at hi
    omega
  clear hr hnw hi hxy
  go_enter Try.func63, Try.ntmps63
  go_wp2_with fail
  refine (Place_any X Y W H k _ Hr.out (by omega)).mono ?_
  rw [Hxy.out]
  rintro e w1 ⟨rfl, hb1⟩
  obtain ⟨hp1, hp2, hp3, hp4⟩ := hpb
  have hB : Bk w1 w.heap.size 23 #[.int .i64 X, .int .i64 Y, .int .i64 W, .int .i64 H] := (Bk.new _ _ _).ext hb1
  go_wp2_with fail
  refine (step_any d _ h0 h8).mono ?_
  rintro e w2 ⟨rfl, hb2⟩
  obtain ⟨t1, t2, t3, t4⟩ := step_bd d
  have hB2 := hB.ext hb2
  have d0 := hB2.cell 0
  have d1 := hB2.cell 1
  have d2 := hB2.cell 2
  have d3 := hB2.cell 3
  have z1 : wrap64 (x + stepX d) = x + stepX d := by unfold wrap64; omega
  have z2 : wrap64 (y + stepY d) = y + stepY d := by unfold wrap64; omega
  go_wp2_with fail
  by_cases hib : InR X Y W H (nbOf x y d).1 (nbOf x y d).2
  · have hq : hasB X Y W H (x + stepX d) (y + stepY d) = true := by
      rw [hasB_ok Hr.out]
      simpa [nbOf] using hib
    have HN : Hid (nbE X Y W H x y d = cellN X Y W (nbOf x y d).1 (nbOf x y d).2) := if_pos hib
    have Hib := hidA hib
    clear hib
    refine (hasAt X Y W H _ _ true _ hq).mono ?_
    rintro e w3 ⟨rfl, hb3⟩
    have hB3 := hB2.ext hb3
    clear d0 d1 d2 d3 hq
    have e0 := hB3.cell 0
    have e1 := hB3.cell 1
    have e2 := hB3.cell 2
    have e3 := hB3.cell 3
    go_wp2_with (go_at_call 60; refine (cell_any X Y W H _ _ _ Hr.out Hib.out).mono ?_; rintro e w4 ⟨rfl, hb4⟩)
    go_ret
    exact ⟨ret_i HN.out.symm, (by repeat (first | exact Ext.refl _ | assumption | refine Ext.setCell ?_ (by first | (simp; done) | (simp; omega)) _ | refine Ext.drewN ?_ _ | refine Ext.alloc ?_ _ | refine Ext.drew ?_ | refine Ext.trans ?_ (by assumption)))⟩
  · have hq : hasB X Y W H (x + stepX d) (y + stepY d) = false := by
      rw [hasB_ok Hr.out]
      simpa [nbOf] using hib
    have HN : Hid (nbE X Y W H x y d = -1) := if_neg hib
    clear hib
    refine (hasAt X Y W H _ _ false _ hq).mono ?_
    rintro e w3 ⟨rfl, hb3⟩
    clear d0 d1 d2 d3 hq
    go_wp2
    go_ret
    exact ⟨ret_i HN.out.symm, (by repeat (first | exact Ext.refl _ | assumption | refine Ext.setCell ?_ (by first | (simp; done) | (simp; omega)) _ | refine Ext.drewN ?_ _ | refine Ext.alloc ?_ _ | refine Ext.drew ?_ | refine Ext.trans ?_ (by assumption)))⟩

/-- a neighbour's number, -1 if there is none -/
def nbI (o : Option Nat) : Int := match o with
  | some n => n
  | none => -1
theorem nbE_nbr {X Y : Int} {Wn Hn k d : Nat} : nbE X Y Wn Hn (placeK X Y Wn k).1 (placeK X Y Wn k).2 d = nbI (nbr Wn Hn k d) := by
  unfold nbE nbr
  have hc : cellN X Y Wn (nbOf (placeK X Y Wn k).1 (placeK X Y Wn k).2 d).1 (nbOf (placeK X Y Wn k).1 (placeK X Y Wn k).2 d).2 = (((k / Wn : Nat) : Int) + stepY d) * Wn + (((k % Wn : Nat) : Int) + stepX d) := by
    unfold cellN nbOf placeK
    simp only [Int.toNat_natCast]
    generalize k % Wn = a
    generalize k / Wn = b
    rw [show Y + (b : Int) + stepY d - Y = (b : Int) + stepY d by omega]
    omega
  have hi : InR X Y Wn Hn (nbOf (placeK X Y Wn k).1 (placeK X Y Wn k).2 d).1 (nbOf (placeK X Y Wn k).1 (placeK X Y Wn k).2 d).2 ↔ (0 ≤ ((k % Wn : Nat) : Int) + stepX d ∧ ((k % Wn : Nat) : Int) + stepX d < Wn ∧ 0 ≤ ((k / Wn : Nat) : Int) + stepY d ∧ ((k / Wn : Nat) : Int) + stepY d < Hn) := by
    unfold InR nbOf placeK
    simp only [Int.toNat_natCast]
    generalize k % Wn = a
    generalize k / Wn = b
    omega
  by_cases h : 0 ≤ ((k % Wn : Nat) : Int) + stepX d ∧ ((k % Wn : Nat) : Int) + stepX d < Wn ∧ 0 ≤ ((k / Wn : Nat) : Int) + stepY d ∧ ((k / Wn : Nat) : Int) + stepY d < Hn
  · rw [if_pos (hi.2 h), if_pos h, hc]
    clear hc hi
    generalize k % Wn = a at *
    generalize k / Wn = b at *
    obtain ⟨x', hx'⟩ : ∃ x' : Nat, (a : Int) + stepX d = x' := ⟨((a : Int) + stepX d).toNat, by omega⟩
    obtain ⟨y', hy'⟩ : ∃ y' : Nat, (b : Int) + stepY d = y' := ⟨((b : Int) + stepY d).toNat, by omega⟩
    rw [hx', hy']
    simp only [nbI, Int.toNat_natCast]
    rw [Int.natCast_add, Int.natCast_mul]
  · rw [if_neg (fun h2 => h (hi.1 h2)), if_neg h]
    rfl
set_option maxRecDepth 100000 in
theorem nb_any (X Y : Int) (Wn Hn k d : Nat) (w : World) (hr : Reg X Y Wn Hn) (hk : k < Wn * Hn) (hd : d < 8) :
    Calls Try.prog 63 #[rgv X Y Wn Hn, .int .i64 k, .int .i64 d] w fun e w' => e = .returned (.int .i64 (nbI (nbr Wn Hn k d))) ∧ Ext w w' := by
  rw [← nbE_nbr (X := X) (Y := Y)]
  exact neighbour_any X Y Wn Hn d _ _ k (Wn * Hn) w rfl hr.ok (by rw [Int.natCast_mul]) hk hr.n (by omega) (by omega)

set_option maxRecDepth 100000 in
set_option maxHeartbeats 1600000 in
theorem edge_any (X Y : Int) (Wn Hn k : Nat) (w : World) (hr : Reg X Y Wn Hn) (hk : k < Wn * Hn) :
    Calls Try.prog 84 #[rgv X Y Wn Hn, .int .i64 k] w fun e w' => e = .returned (.bool (brd Wn Hn k)) ∧ Ext w w' := by
  have HN := fun (d : Nat) (w : World) (hd : d < 8) => hidA (nb_any X Y Wn Hn k d w hr hk hd)
  have HB := hidA (brd_nbr (k := k) hr.w1 hk)
  clear hr hk
  unfold rgv at HN ⊢
  go_enter Try.func84, Try.ntmps84
  go_wp2
  have kR : Bk (w.alloc (.cells #[.int .i64 X, .int .i64 Y, .int .i64 (Wn : Int), .int .i64 (Hn : Int)] 23)) w.heap.size 23 #[.int .i64 X, .int .i64 Y, .int .i64 (Wn : Int), .int .i64 (Hn : Int)] := Bk.new' rfl
  have hx0 : Ext w (w.alloc (.cells #[.int .i64 X, .int .i64 Y, .int .i64 (Wn : Int), .int .i64 (Hn : Int)] 23)) := (Ext.refl _).alloc _
  generalize w.alloc (.cells #[.int .i64 X, .int .i64 Y, .int .i64 (Wn : Int), .int .i64 (Hn : Int)] 23) = w0 at *
  go_loopw [6] (fun s6 wr => ∃ d : Nat, d ≤ 8 ∧ s6 = .int .i64 d ∧ (∀ j, j < d → nbr Wn Hn k j ≠ none) ∧ Ext w0 wr) (fun s6 _ => 8 - (intOf s6).toNat)
  case atStart => exact ⟨0, by omega, rfl, fun j h => by omega, Ext.refl _⟩
  case round =>
    obtain ⟨d, hd, rfl, hal, hx⟩ := hrel
    have Hal := hidA hal
    clear hal
    by_cases hd8 : d < 8
    · have k0 := (kR.ext hx).cell 0
      have k1 := (kR.ext hx).cell 1
      have k2 := (kR.ext hx).cell 2
      have k3 := (kR.ext hx).cell 3
      have HD := fun w => HN d w hd8
      cases hn : nbr Wn Hn k d with
      | none =>
        have Hq := hidA hn
        rw [hn] at HD
        have hb : Hid (brd Wn Hn k = true) := HB.out.2 ⟨d, hd8, hn⟩
        clear hn HN
        simp only [nbI] at HD
        go_wp2_with (go_at_call 63; refine ((HD _).out).mono ?_; rintro e w3 ⟨rfl, hb3⟩)
        go_ret
        exact ⟨ret_b hb.out.symm, (by repeat (first | exact Ext.refl _ | assumption | refine Ext.setCell ?_ (by first | (simp; done) | (simp; omega)) _ | refine Ext.drewN ?_ _ | refine Ext.alloc ?_ _ | refine Ext.drew ?_ | refine Ext.trans ?_ (by assumption)))⟩
      | some m =>
        have Hq := hidA hn
        rw [hn] at HD
        clear hn HN
        simp only [nbI] at HD
        go_wp2_with (go_at_call 63; refine ((HD _).out).mono ?_; rintro e w3 ⟨rfl, hb3⟩)
        go_roundw
        case rel =>
          refine ⟨d + 1, by omega, by go_num, fun j hj => ?_, (by repeat (first | exact Ext.refl _ | assumption | refine Ext.setCell ?_ (by first | (simp; done) | (simp; omega)) _ | refine Ext.drewN ?_ _ | refine Ext.alloc ?_ _ | refine Ext.drew ?_ | refine Ext.trans ?_ (by assumption)))⟩
          by_cases hjd : j = d
          · subst hjd
            rw [Hq.out]
            simp
          · exact Hal.out j (by omega)
        case measure => simp [intOf]; omega
    · have hb : Hid (brd Wn Hn k = false) := by
        show _ = _
        cases h : brd Wn Hn k
        · rfl
        · obtain ⟨j, hj, hn⟩ := HB.out.1 h
          exact absurd hn (Hal.out j (by omega))
      go_wp2
      go_ret
      exact ⟨ret_b hb.out.symm, (by repeat (first | exact Ext.refl _ | assumption | refine Ext.setCell ?_ (by first | (simp; done) | (simp; omega)) _ | refine Ext.drewN ?_ _ | refine Ext.alloc ?_ _ | refine Ext.drew ?_ | refine Ext.trans ?_ (by assumption)))⟩

set_option maxRecDepth 100000 in
set_option maxHeartbeats 1600000 in
/-- water.Neighbours calls a closure for each neighbour, in the order of directions: what each call leads to the next direction stands behind the last one -/
theorem nbs_any (fid : Nat) (caps : Array Value) (henter : ∀ args w, (callFunc fid args).run Try.prog w = .ok (.enter fid args) w) (X Y : Int) (Wn Hn k : Nat) (hr : Reg X Y Wn Hn) (hk : k < Wn * Hn) (Inv : Nat → World → Prop)
    (hext : ∀ d w w', Inv d w → Ext w w' → Inv d w')
    (hyes : ∀ d n w, d < 8 → nbr Wn Hn k d = some n → Inv d w → Calls Try.prog fid (#[.int .i64 n, .int .i64 d] ++ caps) w fun e w' => e = .returned (.tuple #[]) ∧ Inv (d + 1) w' ∧ ∀ g cs, Bk w g 23 cs → Bk w' g 23 cs)
    (hno : ∀ d w, d < 8 → nbr Wn Hn k d = none → Inv d w → Inv (d + 1) w)
    (w : World) (h0 : Inv 0 w) :
    Calls Try.prog 128 #[rgv X Y Wn Hn, .int .i64 k, .func (.func fid) #[] caps] w fun e w' => e = .returned (.tuple #[]) ∧ Inv 8 w' := by
  have HB := fun (d : Nat) (w : World) (hd : d < 8) => hidA (beside_any X Y Wn Hn k d w hr hk hd)
  have Hy := hidA hyes
  have Hno := hidA hno
  have Hx := hidA hext
  clear hyes hno hext
  unfold rgv at HB ⊢
  go_enter Try.func128, Try.ntmps128
  go_wp2
  have kR : Bk (w.alloc (.cells #[.int .i64 X, .int .i64 Y, .int .i64 (Wn : Int), .int .i64 (Hn : Int)] 23)) w.heap.size 23 #[.int .i64 X, .int .i64 Y, .int .i64 (Wn : Int), .int .i64 (Hn : Int)] := Bk.new' rfl
  have hx0 : Ext w (w.alloc (.cells #[.int .i64 X, .int .i64 Y, .int .i64 (Wn : Int), .int .i64 (Hn : Int)] 23)) := (Ext.refl _).alloc _
  have hI0 := Hx.out 0 _ _ h0 hx0
  generalize w.alloc (.cells #[.int .i64 X, .int .i64 Y, .int .i64 (Wn : Int), .int .i64 (Hn : Int)] 23) = w0 at *
  clear h0
  go_loopw [9] (fun s9 wr => ∃ d : Nat, d ≤ 8 ∧ s9 = .int .i64 d ∧ Inv d wr ∧ Bk wr w.heap.size 23 #[.int .i64 X, .int .i64 Y, .int .i64 (Wn : Int), .int .i64 (Hn : Int)]) (fun s9 _ => 8 - (intOf s9).toNat)
  case atStart => exact ⟨0, by omega, rfl, hI0, kR⟩
  case round =>
    clear kR hx0 hI0
    obtain ⟨d, hd, rfl, hI, kR⟩ := hrel
    by_cases hd8 : d < 8
    · have k0 := kR.cell 0
      have k1 := kR.cell 1
      have k2 := kR.cell 2
      have k3 := kR.cell 3
      have HD := fun w => HB d w hd8
      cases hn : nbr Wn Hn k d with
      | none =>
        have Hq := hidA hn
        rw [hn] at HD
        clear hn HB
        simp only [nbV, Option.getD_none, Option.isSome_none] at HD
        go_wp2_with (go_at_call 104; refine ((HD _).out).mono ?_; rintro e w3 ⟨rfl, hb3⟩)
        go_roundw
        case rel => exact ⟨d + 1, by omega, by go_num, Hno.out d _ hd8 Hq.out (Hx.out _ _ _ hI hb3), kR.ext hb3⟩
        case measure => simp [intOf]; omega
      | some m =>
        have Hq := hidA hn
        rw [hn] at HD
        clear hn HB
        simp only [nbV, Option.getD_some, Option.isSome_some] at HD
        go_wp2_with (go_at_call 104; refine ((HD _).out).mono ?_; rintro e w3 ⟨rfl, hb3⟩)
        refine (Hy.out d m _ hd8 Hq.out (Hx.out _ _ _ hI hb3)).mono ?_
        rintro e w4 ⟨rfl, hI4, hbk⟩
        have kR4 := hbk _ _ (kR.ext hb3)
        go_wp2_with fail
        go_roundw
        case rel => exact ⟨d + 1, by omega, by go_num, hI4, kR4⟩
        case measure => simp [intOf]; omega
    · obtain rfl : d = 8 := by omega
      go_wp2
      refine bodyPost_end (results_none Try.results128 _ _ _) rfl ?_
      exact ⟨rfl, hI⟩
end Go.Proofs.Ytinohfgokpbcdaa
