/- Contracts: field.Result, tarnref2.Place, slices.Equal of singles, tarnlaw2.empty of nothing. -/
import Derived.Test.YtgaonoklbihkjaaDoorCoverA
namespace Go.Proofs.YtgaonoklbihkjaaDoor
open Go.RowKit
attribute [local go_sem ↓] Go.wp_at_zero Go.wp_at_succ
attribute [local go_sem] run_store_float

set_option maxHeartbeats 1600000 in
theorem result_any (x y ww hh : Int) (A : Option Addr) (n c : Nat) (l : List Nat) (w : World) (hn : l.length = n) (hr : Rd w A (flt l)) (hb : n ≤ 140737488351232) :
    Calls Tryd.prog 45 #[.agg #[.int .i64 x, .int .i64 y, .int .i64 ww, .int .i64 hh, .slice A n c]] w fun e w' =>
      (l.all hgtB = true ∧ e = .returned (.tuple #[.agg #[.int .i64 x, .int .i64 y, .int .i64 ww, .int .i64 hh, .slice A n c], .int .i64 0]) ∨ l.all hgtB = false ∧ e = .returned (.tuple #[.agg #[.int .i64 0, .int .i64 0, .int .i64 0, .int .i64 0, .slice none 0 0], .int .i64 3])) ∧ Ext w w' := by
  have Hn := hidA hn
  clear hn
  go_enter Tryd.func45, Tryd.ntmps45
  go_wp2
  go_loop [9] (fun i => ∃ k : Nat, k ≤ n ∧ i = .int .i64 k ∧ ∀ b ∈ l.take k, hgtB b = true) (fun i => n - (intOf i).toNat)
  case atStart => exact ⟨0, Nat.zero_le _, rfl, by simp⟩
  case round =>
    obtain ⟨k, hk, rfl, hpre⟩ := hrel
    by_cases hlt : k < n
    · have hkl : k < l.length := by have := Hn.out; omega
      obtain ⟨ad, rfl, hbk, hc⟩ := ((hr.alloc (.cells #[.int .i64 x, .int .i64 y, .int .i64 ww, .int .i64 hh, .slice A n c] 55)).alloc (.cells #[.int .i64 0, .int .i64 0, .int .i64 0, .int .i64 0, .slice none 0 0] 55)).at (k := k) (by simpa using hkl)
      have hck := hc k _ (flt_get hkl)
      have HS := hidA (show ∀ h : hgtB l[k] = true, ∀ b ∈ l.take (k + 1), hgtB b = true from fun h b hb => by
        rw [List.take_succ_eq_append_getElem hkl] at hb
        rcases List.mem_append.1 hb with hb | hb
        · exact hpre b hb
        · simp at hb; rw [hb]; exact h)
      have HB := hidA (show hgtB l[k] = false → l.all hgtB = false from fun h => by
        rw [List.all_eq_false]
        exact ⟨l[k], List.getElem_mem hkl, by rw [h]; decide⟩)
      clear hc hr hbk hpre
      cases hfin : hgtB l[k]
      · go_wp2_with (go_at_call 64; refine (height_any _ _).mono ?_; rintro e w' ⟨rfl, rfl⟩)
        refine bodyPost_ret (v := .tuple #[.agg #[.int .i64 0, .int .i64 0, .int .i64 0, .int .i64 0, .slice none 0 0], .int .i64 3]) (by simp [results, Tryd.results45, go_sem]) rfl ⟨.inr ⟨HB.out hfin, rfl⟩, ?_⟩
        repeat (first | exact Ext.refl _ | assumption | refine Ext.setCell ?_ (by simp) _ | refine Ext.alloc ?_ _ | refine Ext.drew ?_ | refine Ext.trans ?_ (by assumption))
      · have HS2 := hidA (HS.out hfin)
        go_wp2_with (go_at_call 64; refine (height_any _ _).mono ?_; rintro e w' ⟨rfl, rfl⟩)
        go_round
        case rel => exact ⟨k + 1, by omega, by go_num, HS2.out⟩
        case measure => simp [intOf]; omega
    · have hall : l.all hgtB = true := by
        rw [List.all_eq_true]
        intro b hb
        refine hpre b ?_
        rw [List.take_of_length_le (by have := Hn.out; omega)]
        exact hb
      have Ha := hidA hall
      clear hpre hall
      go_wp2
      refine bodyPost_ret (v := .tuple #[.agg #[.int .i64 x, .int .i64 y, .int .i64 ww, .int .i64 hh, .slice A n c], .int .i64 0]) (by simp [results, Tryd.results45, go_sem]) rfl ⟨.inl ⟨by first | exact Ha.out | simpa using Ha.out, rfl⟩, ?_⟩
      exact ((Ext.refl _).alloc _).alloc _

set_option maxHeartbeats 1600000 in
theorem empty_zero (w : World) : Calls Tryd.prog 21 #[.agg #[.int .i64 0, .int .i64 0, .int .i64 0, .int .i64 0, .slice none 0 0]] w fun e w' => e = .returned (.bool true) ∧ Ext w w' := by
  go_enter Tryd.func21, Tryd.ntmps21
  go_wp2
  go_ret
  exact ⟨rfl, (by repeat (first | exact Ext.refl _ | assumption | refine Ext.setCell ?_ (by first | (simp; done) | (simp; omega)) _ | refine Ext.drewN ?_ _ | refine Ext.alloc ?_ _ | refine Ext.drew ?_ | refine Ext.trans ?_ (by assumption)))⟩

theorem place_facts {k Wn : Nat} {X Y : Int} (hk : k ≤ 65536) (h1 : 1 ≤ Wn) (h2 : Wn ≤ 512) (hX1 : -4194304 ≤ X) (hX2 : X ≤ 4194304) (hY1 : -4194304 ≤ Y) (hY2 : Y ≤ 4194304) :
    wrap64 ((k : Int) / (Wn : Int)) = (k : Int) / (Wn : Int) ∧ wrap64 (Y + (k : Int) / (Wn : Int)) = Y + (k : Int) / (Wn : Int) ∧ IntKind.i64.wrap (X + (k : Int) % (Wn : Int)) = X + (k : Int) % (Wn : Int) ∧
      (-8388608 ≤ X + (k : Int) % (Wn : Int) ∧ X + (k : Int) % (Wn : Int) ≤ 8388608) ∧ (-8388608 ≤ Y + (k : Int) / (Wn : Int) ∧ Y + (k : Int) / (Wn : Int) ≤ 8388608) := by
  have a1 : 0 ≤ (k : Int) % (Wn : Int) := Int.emod_nonneg _ (by omega)
  have a2 : (k : Int) % (Wn : Int) < Wn := Int.emod_lt_of_pos _ (by omega)
  have a3 : 0 ≤ (k : Int) / (Wn : Int) := Int.ediv_nonneg (by omega) (by omega)
  have a4 : (k : Int) / (Wn : Int) ≤ k := Int.ediv_le_self _ (by omega)
  generalize (k : Int) % (Wn : Int) = a at *
  generalize (k : Int) / (Wn : Int) = b at *
  refine ⟨by unfold wrap64; omega, by unfold wrap64; omega, IntWalk.i64_in _ (by omega), by omega, by omega⟩
set_option maxRecDepth 100000 in
set_option maxHeartbeats 1600000 in
theorem placeC_any (X Y : Int) (Wn Hn k : Nat) (w : World) (hr : Reg X Y Wn Hn) (hk : k ≤ 65536) :
    Calls Tryd.prog 22 #[.agg #[.int .i64 X, .int .i64 Y, .int .i64 (Wn : Int), .int .i64 (Hn : Int)], .int .i64 k] w fun e w' => e = .returned (.tuple #[.int .i64 (colK X Wn k), .int .i64 (rowK Y Wn k)]) ∧ Ext w w' := by
  obtain ⟨r1, r2, r3, r4, r5, r6, r7, r8, r9⟩ := hr
  obtain ⟨y1, y2, z6, _, _⟩ := place_facts (k := k) (Wn := Wn) (X := X) (Y := Y) hk (by omega) (by omega) (by omega) (by omega) (by omega) (by omega)
  go_enter Tryd.func22, Tryd.ntmps22
  go_wp2
  go_quiet (fail)
  go_wp2
  go_ret2
  exact ⟨by simp [colK, rowK], (by repeat (first | exact Ext.refl _ | assumption | refine Ext.setCell ?_ (by first | (simp; done) | (simp; omega)) _ | refine Ext.drewN ?_ _ | refine Ext.alloc ?_ _ | refine Ext.drew ?_ | refine Ext.trans ?_ (by assumption)))⟩

set_option maxRecDepth 100000 in
set_option maxHeartbeats 1600000 in
theorem eqFlo_same (A B : Option Addr) (n c d : Nat) (a b : List Nat) (w : World) (hn : a.length = n) (hn2 : b.length = n) (ha : Rd w A (flt a)) (hb : Rd w B (flt b)) (hnb : n ≤ 4000000) (he : ∀ k (h1 : k < a.length) (h2 : k < b.length), (FloatKind.f32.format.order a[k] b[k] == some .eq) = true) :
    Calls Tryd.prog 24 #[.slice A n c, .slice B n d] w fun e w' => e = .returned (.bool true) ∧ Ext w w' := by
  have Hn := hidA hn
  have Hn2 := hidA hn2
  have He := hidA he
  clear hn hn2 he
  go_enter Tryd.func24, Tryd.ntmps24
  go_wp2
  go_loopw [13] (fun i wr => ∃ k m : Nat, k ≤ n ∧ i = .int .i64 k ∧ wr = w.drewN m) (fun i _ => n - (intOf i).toNat)
  case atStart => exact ⟨0, 0, Nat.zero_le _, rfl, rfl⟩
  case round =>
    obtain ⟨k, m, hk, rfl, rfl⟩ := hrel
    by_cases hlt : k < n
    · have hkl : k < a.length := by have := Hn.out; omega
      have hkl2 : k < b.length := by have := Hn2.out; omega
      obtain ⟨ad, rfl, hbk, hc⟩ := ha.at (k := k) (by simpa [flt] using hkl)
      obtain ⟨ad2, rfl, hbk2, hc2⟩ := hb.at (k := k) (by simpa [flt] using hkl2)
      have e0 := hc k _ (flt_get hkl)
      have e2 := hc2 k _ (flt_get hkl2)
      have C1 : FloatKind.f32.format.order a[k] b[k] = some .eq := by have := He.out k hkl hkl2; simpa using this
      generalize a[k] = va at *
      generalize b[k] = vb at *
      have k0 : (0 : Int) ≤ k := by omega
      have k1 : (k : Int) < n := by omega
      clear ha hb hc hc2
      go_wp2
      go_quiet (fail)
      go_wp2
      go_roundw
      case rel => exact ⟨k + 1, _, by omega, by go_num, rfl⟩
      case measure => simp [intOf]; omega
    · obtain rfl : k = n := by omega
      go_wp2
      go_ret
      exact ⟨rfl, (by repeat (first | exact Ext.refl _ | assumption | refine Ext.setCell ?_ (by first | (simp; done) | (simp; omega)) _ | refine Ext.drewN ?_ _ | refine Ext.alloc ?_ _ | refine Ext.drew ?_ | refine Ext.trans ?_ (by assumption)))⟩
end Go.Proofs.YtgaonoklbihkjaaDoor
