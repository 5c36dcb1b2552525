/- The law RulesMatch: it returns true for every field, rules and places. -/
import Derived.Test.YtbjomkidjccdoaaRdTA
import Derived.Test.YtbjomkidjccdoaaRdV
import Derived.RegionTactic
import Derived.BigRegion
import Derived.Deep.QuietTactic
import Derived.Test.YtbjomkidjccdoaaRdS
import Derived.Test.YtbjomkidjccdoaaRdT
namespace Go.Proofs.Ytbjomkidjccdoaa
open Go.RowKit
attribute [local go_sem ↓] Go.wp_at_zero Go.wp_at_succ

theorem geq_ltR {x y : Nat} (h : Fin x) (h2 : Fin y) : (FloatKind.f32.format.order x y == some .gt || FloatKind.f32.format.order x y == some .eq) = !lt x y := by
  have e := ord_valI h h2
  rw [← ord_def] at e
  rw [lt_val h h2, e]
  rcases Int.lt_trichotomy (valI x) (valI y) with h1 | h1 | h1
  · rw [Int.compare_eq_lt.2 h1, decide_eq_true h1]; rfl
  · rw [Int.compare_eq_eq.2 h1, decide_eq_false (by omega)]; rfl
  · rw [Int.compare_eq_gt.2 h1, decide_eq_false (by omega)]; rfl
theorem next_i {i n : Nat} (h : n ≤ 12) (h1 : i < n) : wrap64 ((i : Int) + 1) = ((i + 1 : Nat) : Int) := by
  rw [IntWalk.wrap64_in _ ⟨by omega, by omega⟩]; omega
theorem next_m {i n : Nat} (h : n ≤ 12) (h1 : i < n) : n - (intOf (.int .i64 (wrap64 ((i : Int) + 1)))).toNat < n - (intOf (.int .i64 (i : Int))).toNat := by
  rw [next_i h h1]
  simp [intOf]
  omega
theorem mul_sgn2 {n : Nat} {s : Int} (hn : n ≤ 12) (h1 : -1 ≤ s) (h2 : s ≤ 1) : -12 ≤ (n : Int) * s ∧ (n : Int) * s ≤ 12 := by
  have hs : s = -1 ∨ s = 0 ∨ s = 1 := by omega
  rcases hs with rfl | rfl | rfl <;> omega
end Go.Proofs.Ytbjomkidjccdoaa

namespace Go.Proofs.Ytbjomkidjccdoaa
open Go.RowKit
attribute [local go_sem ↓] Go.wp_at_zero Go.wp_at_succ
attribute [local go_sem] run_store_float

end Go.Proofs.Ytbjomkidjccdoaa

namespace Go.Proofs.Ytbjomkidjccdoaa
open Go.RowKit
attribute [local go_sem ↓] Go.wp_at_zero Go.wp_at_succ

end Go.Proofs.Ytbjomkidjccdoaa

namespace Go.Proofs.Ytbjomkidjccdoaa
open Go.RowKit

theorem field_zero {x y w h : Int} {l : List Nat} (e : fieldE x y w h l = 0) : regE x y w h = 0 ∧ (l.length : Int) = w * h ∧ numE l = 0 := by
  unfold fieldE at e
  split at e
  · rename_i h1; exact absurd e h1
  · rename_i h1
    split at e
    · cases e
    · rename_i h2
      exact ⟨by simpa using h1, by simpa using h2, e⟩
theorem zero_f : valI 0 = 0 := by decide +kernel
theorem k10_f : valI 1149239296 = 2 ^ 159 := by decide +kernel
theorem outB_no {b : Nat} (hb : Fin b) (h : outB b = false) : Bd 10 b ∧ 0 ≤ valI b ∧ valI b ≤ 2 ^ 159 := by
  unfold outB at h
  rw [lt_val hb (by unfold Fin; omega), gt_val hb (by unfold Fin; omega), zero_f, k10_f] at h
  simp only [Bool.or_eq_false_iff, decide_eq_false_iff_not] at h
  refine ⟨?_, by omega, by omega⟩
  rw [bd_valI (by omega)]
  omega
set_option maxRecDepth 10000 in
theorem grnd_ok {X Y W H : Int} {lf : List Nat} {gr wt br de : Nat} {sp : Int} {m : Nat} {X' Y' W' H' : Int} {l : List Nat} {C : Option Addr} {w : World} (h : grndE X Y W H lf gr wt br de sp m X' Y' W' H' l = 0) (hC : CoP w C m X' Y' W' H' l) :
    ∃ (Wn Hn : Nat) (R : RlR), W = Wn ∧ H = Hn ∧ Reg X Y Wn Hn ∧ lf.length = Wn * Hn ∧ (∀ j, j < Wn * Hn → Bd 20 (lf.getD j 0)) ∧ R.gr = gr ∧ R.wt = wt ∧ R.br = br ∧ R.de = de ∧ (R.sp : Int) = sp ∧ RlOk R (Wn * Hn) ∧ CoR w C m R.co ∧ m ≤ 1 := by
  have hm := grnd_m h
  unfold grndE at h
  split at h
  · rename_i h1; exact absurd h h1
  · rename_i hf
    have hf' : fieldE X Y W H lf = 0 := by simpa using hf
    split at h
    · rename_i h1; exact absurd h h1
    · rename_i hr
      have hr' : rulesE gr wt br de sp m X' Y' W' H' l = 0 := by simpa using hr
      split at h
      · cases h
      · rename_i hp
        obtain ⟨f1, f2, f3⟩ := field_zero hf'
        obtain ⟨Wn, Hn, rfl, rfl, hg⟩ := Reg.of_zero f1
        have hlen : lf.length = Wn * Hn := by have h9 : (lf.length : Int) = ((Wn * Hn : Nat) : Int) := by rw [f2, Int.natCast_mul]
                                              omega
        have hn4 : ∀ b ∈ lf, Bd 20 b := fun b hb => hgt_bd ((numE_zero f3).2 b hb)
        unfold rulesE at hr'
        split at hr'
        · rename_i h1; exact absurd hr' h1
        · rename_i hnm
          have hnm' : numE [gr, wt, br, de] = 0 := by simpa using hnm
          have hb4 := fun b hb => hgt_bd ((numE_zero hnm').2 b hb)
          have b1 := hb4 gr (by simp)
          have b2 := hb4 wt (by simp)
          have b3 := hb4 br (by simp)
          have b4 := hb4 de (by simp)
          split at hr'
          · cases hr'
          · rename_i ho
            split at hr'
            · cases hr'
            · rename_i hbr
              have o1 := outB_no (bd_Fin b1 (by omega)) (by simpa using fun e => ho (.inl e))
              have o2 := outB_no (bd_Fin b2 (by omega)) (by simpa using fun e => ho (.inr (.inl e)))
              have o4 := outB_no (bd_Fin b4 (by omega)) (by simpa using fun e => ho (.inr (.inr e)))
              have hlt : lt br 1065353216 = false := by simpa using fun e => hbr (.inl e)
              have hgt : gt br 1149239296 = false := by simpa using fun e => hbr (.inr (.inl e))
              have hsp : spanB sp = false := by simpa using fun e => hbr (.inr (.inr e))
              rw [lt_val (bd_Fin b3 (by omega)) (by unfold Fin; omega), one_val] at hlt
              rw [gt_val (bd_Fin b3 (by omega)) (by unfold Fin; omega), k10_f] at hgt
              simp only [decide_eq_false_iff_not] at hlt hgt
              have hs : 0 ≤ sp ∧ sp ≤ 12 := by
                unfold spanB at hsp
                simp at hsp
                omega
              have hco : m = 1 → l.length = Wn * Hn ∧ ∀ j, j < Wn * Hn → Bd 10 (l.getD j 0) ∧ 0 ≤ valI (l.getD j 0) := fun hm1 => by
                unfold coE at hr'
                rw [if_neg (by omega), if_neg (by omega)] at hr'
                split at hr'
                · rename_i h1; exact absurd hr' h1
                · rename_i hf2
                  split at hr'
                  · cases hr'
                  · rename_i hany
                    obtain ⟨g1, g2, g3⟩ := field_zero (show fieldE X' Y' W' H' l = 0 by simpa using hf2)
                    have hreg : X' = X ∧ Y' = Y ∧ W' = (Wn : Int) ∧ H' = (Hn : Int) := by
                      rcases Classical.em (X' = X ∧ Y' = Y ∧ W' = (Wn : Int) ∧ H' = (Hn : Int)) with h8 | h8
                      · exact h8
                      · exact absurd ⟨hm1, h8⟩ hp
                    obtain ⟨_, _, e3, e4⟩ := hreg
                    have hl2 : l.length = Wn * Hn := by
                      have h9 : (l.length : Int) = ((Wn * Hn : Nat) : Int) := by rw [g2, e3, e4, Int.natCast_mul]
                      omega
                    refine ⟨hl2, fun j hj => ?_⟩
                    have hjl : j < l.length := by rw [hl2]; exact hj
                    have hmem : l.getD j 0 ∈ l := by
                      rw [show l.getD j 0 = l[j] by simp [List.getD_eq_getElem?_getD, hjl]]
                      exact List.getElem_mem hjl
                    have hb5 := hgt_bd ((numE_zero g3).2 _ hmem)
                    have h9 := outB_no (bd_Fin hb5 (by omega)) (by
                      cases he : outB (l.getD j 0) with
                      | false => rfl
                      | true => exact absurd (List.any_eq_true.2 ⟨_, hmem, he⟩) hany)
                    exact ⟨h9.1, h9.2.1⟩
              refine ⟨Wn, Hn, ⟨gr, wt, br, de, sp.toNat, if m = 1 then some l else none⟩, rfl, rfl, hg, hlen, fun j hj => ?_, rfl, rfl, rfl, rfl, by show ((sp.toNat : Nat) : Int) = sp; omega, ?_, ?_, hm⟩
              · have hjl : j < lf.length := by rw [hlen]; exact hj
                refine hn4 _ ?_
                rw [show lf.getD j 0 = lf[j] by simp [List.getD_eq_getElem?_getD, hjl]]
                exact List.getElem_mem hjl
              · constructor
                · exact b1
                · exact o1.2.2
                · exact o2.1
                · exact o2.2.1
                · show Bd 10 br
                  rw [bd_valI (by omega)]
                  omega
                · show 2 ^ 149 ≤ valI br
                  omega
                · exact o4.1
                · exact o4.2.1
                · show sp.toNat ≤ 12
                  omega
                · intro l' hl'
                  dsimp only at hl'
                  split at hl'
                  · rename_i hm1
                    injection hl' with e
                    rw [← e]
                    exact (hco hm1).1
                  · cases hl'
                · intro l' hl'
                  dsimp only at hl'
                  split at hl'
                  · rename_i hm1
                    injection hl' with e
                    rw [← e]
                    exact (hco hm1).2
                  · cases hl'
              · show CoR w C m (if m = 1 then some l else none)
                by_cases hm1 : m = 1
                · rw [if_pos hm1]
                  obtain ⟨B, c', q1, q2, _⟩ := hC.one hm1
                  exact ⟨hm1, X', Y', W', H', B, c', q1, q2⟩
                · rw [if_neg hm1]
                  show m = 0
                  omega
end Go.Proofs.Ytbjomkidjccdoaa

namespace Go.Proofs.Ytbjomkidjccdoaa
open Go.RowKit
attribute [local go_sem ↓] Go.wp_at_zero Go.wp_at_succ
attribute [local go_sem] run_store_float

theorem inR_cell {X Y x y : Int} {Wn Hn : Nat} (h : InR X Y Wn Hn x y) : ∃ k, k < Wn * Hn ∧ x = X + ((k % Wn : Nat) : Int) ∧ y = Y + ((k / Wn : Nat) : Int) := by
  unfold InR at h
  obtain ⟨a, ha⟩ := Int.eq_ofNat_of_zero_le (show 0 ≤ x - X by omega)
  obtain ⟨b, hb⟩ := Int.eq_ofNat_of_zero_le (show 0 ≤ y - Y by omega)
  have h1 : a < Wn := by omega
  have h2 : b < Hn := by omega
  refine ⟨b * Wn + a, ?_, ?_, ?_⟩
  · calc b * Wn + a < b * Wn + Wn := by omega
      _ = (b + 1) * Wn := by rw [Nat.add_mul, Nat.one_mul]
      _ ≤ Hn * Wn := Nat.mul_le_mul_right _ h2
      _ = Wn * Hn := Nat.mul_comm _ _
  · rw [Nat.mul_comm, Nat.mul_add_mod, Nat.mod_eq_of_lt h1]; omega
  · rw [Nat.mul_comm, Nat.mul_add_div (by omega), Nat.div_eq_of_lt h1]; omega
end Go.Proofs.Ytbjomkidjccdoaa

namespace Go.Proofs.Ytbjomkidjccdoaa
open Go.RowKit
attribute [local go_sem ↓] Go.wp_at_zero Go.wp_at_succ
attribute [local go_sem] run_store_float

theorem zero_eq : (FloatKind.f32.format.order 0 0 == some .eq) = true := by decide +kernel
/-- 5 where one of two places is outside -/
def twoE (a b : Bool) : Int := if a then (if b then 0 else 5) else 5
end Go.Proofs.Ytbjomkidjccdoaa
