/- Contracts: field.Result, tarnlaw2.empty of nothing; lists of heights. -/
import Derived.Test.YtinohfgokpbcdaaCheckP
import Derived.Test.YtinohfgokpbcdaaFloatG
import Derived.Test.YtinohfgokpbcdaaKeyB
namespace Go.Proofs.Ytinohfgokpbcdaa
open Go.RowKit
attribute [local go_sem ↓] Go.wp_at_zero Go.wp_at_succ

set_option maxHeartbeats 1600000 in
theorem result_any (x y ww hh : Int) (A : Option Addr) (n c : Nat) (l : List Nat) (w : World) (hn : l.length = n) (hr : Rd w A (flt l)) (hb : n ≤ 140737488351232) :
    Calls Try.prog 82 #[.agg #[.int .i64 x, .int .i64 y, .int .i64 ww, .int .i64 hh, .slice A n c]] w fun e w' =>
      (l.all hgtB = true ∧ e = .returned (.tuple #[.agg #[.int .i64 x, .int .i64 y, .int .i64 ww, .int .i64 hh, .slice A n c], .int .i64 0]) ∨ l.all hgtB = false ∧ e = .returned (.tuple #[.agg #[.int .i64 0, .int .i64 0, .int .i64 0, .int .i64 0, .slice none 0 0], .int .i64 3])) ∧ Ext w w' := by
  have Hn := hidA hn
  clear hn
  go_enter Try.func82, Try.ntmps82
  go_wp2
  go_loop [9] (fun i => ∃ k : Nat, k ≤ n ∧ i = .int .i64 k ∧ ∀ b ∈ l.take k, hgtB b = true) (fun i => n - (intOf i).toNat)
  case atStart => exact ⟨0, Nat.zero_le _, rfl, by simp⟩
  case round =>
    obtain ⟨k, hk, rfl, hpre⟩ := hrel
    by_cases hlt : k < n
    · have hkl : k < l.length := by have := Hn.out; omega
      obtain ⟨ad, rfl, hbk, hc⟩ := ((hr.alloc (.cells #[.int .i64 x, .int .i64 y, .int .i64 ww, .int .i64 hh, .slice A n c] 26)).alloc (.cells #[.int .i64 0, .int .i64 0, .int .i64 0, .int .i64 0, .slice none 0 0] 26)).at (k := k) (by simpa using hkl)
      have hck := hc k _ (flt_get hkl)
      have HS := hidA (show ∀ h : hgtB l[k] = true, ∀ b ∈ l.take (k + 1), hgtB b = true from fun h b hb => by
        rw [List.take_succ_eq_append_getElem hkl] at hb
        rcases List.mem_append.1 hb with hb | hb
        · exact hpre b hb
        · simp at hb; rw [hb]; exact h)
      have HB := hidA (show hgtB l[k] = false → l.all hgtB = false from fun h => by
        rw [List.all_eq_false]
        exact ⟨l[k], List.getElem_mem hkl, by rw [h]; decide⟩)
      clear hc hr hbk hpre
      cases hfin : hgtB l[k]
      · go_wp2_with (go_at_call 135; refine (height_any _ _).mono ?_; rintro e w' ⟨rfl, rfl⟩)
        refine bodyPost_ret (v := .tuple #[.agg #[.int .i64 0, .int .i64 0, .int .i64 0, .int .i64 0, .slice none 0 0], .int .i64 3]) (by simp [results, Try.results82, go_sem]) rfl ⟨.inr ⟨HB.out hfin, rfl⟩, ?_⟩
        repeat (first | exact Ext.refl _ | assumption | refine Ext.setCell ?_ (by simp) _ | refine Ext.alloc ?_ _ | refine Ext.drew ?_ | refine Ext.trans ?_ (by assumption))
      · have HS2 := hidA (HS.out hfin)
        go_wp2_with (go_at_call 135; refine (height_any _ _).mono ?_; rintro e w' ⟨rfl, rfl⟩)
        go_round
        case rel => exact ⟨k + 1, by omega, by go_num, HS2.out⟩
        case measure => simp [intOf]; omega
    · have hall : l.all hgtB = true := by
        rw [List.all_eq_true]
        intro b hb
        refine hpre b ?_
        rw [List.take_of_length_le (by have := Hn.out; omega)]
        exact hb
      have Ha := hidA hall
      clear hpre hall
      go_wp2
      refine bodyPost_ret (v := .tuple #[.agg #[.int .i64 x, .int .i64 y, .int .i64 ww, .int .i64 hh, .slice A n c], .int .i64 0]) (by simp [results, Try.results82, go_sem]) rfl ⟨.inl ⟨by first | exact Ha.out | simpa using Ha.out, rfl⟩, ?_⟩
      exact ((Ext.refl _).alloc _).alloc _

set_option maxHeartbeats 1600000 in
theorem empty_zero (w : World) : Calls Try.prog 21 #[.agg #[.int .i64 0, .int .i64 0, .int .i64 0, .int .i64 0, .slice none 0 0]] w fun e w' => e = .returned (.bool true) ∧ Ext w w' := by
  go_enter Try.func21, Try.ntmps21
  go_wp2
  go_ret
  exact ⟨rfl, (by repeat (first | exact Ext.refl _ | assumption | refine Ext.setCell ?_ (by first | (simp; done) | (simp; omega)) _ | refine Ext.drewN ?_ _ | refine Ext.alloc ?_ _ | refine Ext.drew ?_ | refine Ext.trans ?_ (by assumption)))⟩
theorem hgt_fin {b : Nat} (h : hgtB b = true) : finB b = true := bd_finB (hgt_bd h) (by omega)
/-- all are heights: no error -/
theorem numE_all {l : List Nat} (h : l.all hgtB = true) : numE l = 0 := by
  rw [List.all_eq_true] at h
  refine numE_ok (fun b hb => hgt_fin (h b hb)) h
theorem numE_not {l : List Nat} (h : l.all hgtB = false) : numE l ≠ 0 := fun e => by
  have h2 := (numE_zero e).2
  rw [List.all_eq_false] at h
  obtain ⟨b, hb, h3⟩ := h
  exact h3 (h2 b hb)
/-- what Result gives: the field, or nothing -/
def ResR (x y ww hh : Int) (sv : Value) (l : List Nat) (a b c d : Int) (v : Value) (ec : Int) : Prop :=
  l.all hgtB = true ∧ a = x ∧ b = y ∧ c = ww ∧ d = hh ∧ v = sv ∧ ec = 0 ∨ l.all hgtB = false ∧ a = 0 ∧ b = 0 ∧ c = 0 ∧ d = 0 ∧ v = .slice none 0 0 ∧ ec = 3
theorem result_one (x y ww hh : Int) (A : Option Addr) (n c : Nat) (l : List Nat) (w : World) (hn : l.length = n) (hr : Rd w A (flt l)) (hb : n ≤ 140737488351232) :
    Calls Try.prog 82 #[.agg #[.int .i64 x, .int .i64 y, .int .i64 ww, .int .i64 hh, .slice A n c]] w fun e w' => ∃ (a b c' d : Int) (vA : Option Addr) (vn vc : Nat) (ec : Int), e = .returned (.tuple #[.agg #[.int .i64 a, .int .i64 b, .int .i64 c', .int .i64 d, .slice vA vn vc], .int .i64 ec]) ∧ ResR x y ww hh (.slice A n c) l a b c' d (.slice vA vn vc) ec ∧ Ext w w' := by
  refine (result_any x y ww hh A n c l w hn hr hb).mono ?_
  rintro e w' ⟨⟨ha, rfl⟩ | ⟨ha, rfl⟩, hx⟩
  · exact ⟨_, _, _, _, _, _, _, _, rfl, .inl ⟨ha, rfl, rfl, rfl, rfl, rfl, rfl⟩, hx⟩
  · exact ⟨_, _, _, _, _, _, _, _, rfl, .inr ⟨ha, rfl, rfl, rfl, rfl, rfl, rfl⟩, hx⟩
theorem hgt_iff {b : Nat} : hgtB b = true ↔ Bd 20 b := ⟨hgt_bd, fun h => bd_hgt h (by omega)⟩
theorem hgt_val {a b : Nat} (h : valI a = valI b) : hgtB a = hgtB b := by
  rw [Bool.eq_iff_iff, hgt_iff, hgt_iff, bd_valI (by omega), bd_valI (by omega), h]
end Go.Proofs.Ytinohfgokpbcdaa
