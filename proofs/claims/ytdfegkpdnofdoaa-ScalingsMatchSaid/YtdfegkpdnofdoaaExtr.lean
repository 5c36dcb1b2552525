/- Contract: field.Extremes. -/
import Derived.Test.YtdfegkpdnofdoaaExtrP
import Derived.Test.YtdfegkpdnofdoaaBaseA
import Derived.Deep.QuietTactic
import Derived.BigQuiet
namespace Go.Proofs.Ytdfegkpdnofdoaa
open Go.RowKit
attribute [local go_sem ↓] Go.wp_at_zero Go.wp_at_succ

set_option maxRecDepth 100000 in
set_option maxHeartbeats 1600000 in
theorem extremes_any (ad : Addr) (n c : Nat) (l : List Nat) (w : World) (hn : l.length = n) (hr : Rd w (some ad) (flt l)) (h1 : 2 ≤ n) (hb : n ≤ 4000000000) (hcap : n ≤ c) :
    Calls Try.prog 54 #[.slice (some ad) n c] w fun e w' => e = .returned (.tuple #[.float .f32 (extr l).1, .float .f32 (extr l).2]) ∧ ∃ m, w' = w.drewN m := by
  obtain ⟨v, r, rfl⟩ : ∃ v r, l = v :: r := by
    cases l with
    | nil => simp at hn; omega
    | cons v r => exact ⟨v, r, rfl⟩
  obtain ⟨ad', e, hlt, hc⟩ := hr (by simp [flt])
  injection e with e
  subst e
  have e0 : w.cell? ad = some (.float .f32 v) := hc 0 _ rfl
  have HH := hidA hc
  clear hc
  go_enter Try.func54, Try.ntmps54
  go_wp2_with fail
  go_quiet (fail)
  go_wp2_with fail
  have Hr0 := HH.out
  have Hn := hidA (show r.length + 1 = n from by simpa using hn)
  have hne := hb
  clear HH e0 hn hr
  have Hc := hidA (show ∀ k, (h : k < r.length) → w.cell? ⟨ad.block, ad.off + 1 + k, none⟩ = some (.float .f32 r[k]) from fun k hk => by
    rw [show (⟨ad.block, ad.off + 1 + k, none⟩ : Addr) = ad.add (k + 1) from by rw [add_pos _ (by omega), show ad.off + 1 + k = ad.off + (k + 1) from by omega]]
    exact Hr0 (k + 1) _ (by simp [flt, hk]))
  clear Hr0
  go_loop [2, 3, 15] (fun a b i => ∃ k : Nat, k ≤ r.length ∧ i = .int .i64 k ∧ a = .float .f32 ((r.take k).foldl ext1 (v, v)).1 ∧ b = .float .f32 ((r.take k).foldl ext1 (v, v)).2) (fun _ _ i => n - (intOf i).toNat)
  case atStart => exact ⟨0, Nat.zero_le _, rfl, rfl, rfl⟩
  case round =>
    obtain ⟨k, hk, rfl, rfl, rfl⟩ := hrel
    by_cases hlt : k < r.length
    · have e1 := Hc.out k hlt
      have hkn : k < n - 1 := by have := Hn.out; omega
      have Ht : Hid ((r.take (k + 1)).foldl ext1 (v, v) = ext1 ((r.take k).foldl ext1 (v, v)) r[k]) := by
        show _ = _
        rw [List.take_succ_eq_append_getElem hlt, List.foldl_append]
        rfl
      obtain ⟨lo, hlo⟩ : ∃ lo, ((r.take k).foldl ext1 (v, v)).1 = lo := ⟨_, rfl⟩
      obtain ⟨hi, hhi⟩ : ∃ hi, ((r.take k).foldl ext1 (v, v)).2 = hi := ⟨_, rfl⟩
      have Ht2 : Hid (((r.take (k + 1)).foldl ext1 (v, v)).1 = (if lt r[k] lo = true then r[k] else lo) ∧ ((r.take (k + 1)).foldl ext1 (v, v)).2 = (if gt r[k] hi = true then r[k] else hi)) := by
        show _ ∧ _
        rw [Ht.out, ← hlo, ← hhi]
        exact ⟨rfl, rfl⟩
      rw [hlo, hhi]
      clear hlo hhi Ht
      obtain ⟨u, hu⟩ : ∃ u, r[k] = u := ⟨_, rfl⟩
      rw [hu] at e1 Ht2
      clear hu
      rcases hA : lt u lo <;> rcases hB : gt u hi
      all_goals
        have b0 : (FloatKind.f32.format.order u lo == some .lt) = _ := hA
        have b1 : (FloatKind.f32.format.order u hi == some .gt) = _ := hB
        have Ht3 := Ht2.out
        rw [hA, hB] at Ht3
        simp only [if_true, Bool.false_eq_true, if_false] at Ht3
        have Ht4 := hidA Ht3
        clear Ht3 Ht2 hA hB
        go_wp2_with fail
        go_round
        case rel => exact ⟨k + 1, by omega, by go_num, by rw [Ht4.out.1], by rw [Ht4.out.2]⟩
        case measure => simp [intOf]; omega
    · obtain rfl : k = r.length := by omega
      have hkn : ¬ r.length < n - 1 := by have := Hn.out; omega
      go_wp2_with fail
      go_ret2
      exact ⟨rfl, _, rfl⟩

set_option maxRecDepth 100000 in
set_option maxHeartbeats 1600000 in
theorem extremes_one (ad : Addr) (c v : Nat) (w : World) (hr : Rd w (some ad) (flt [v])) (hcap : 1 ≤ c) :
    Calls Try.prog 54 #[.slice (some ad) 1 c] w fun e w' => e = .returned (.tuple #[.float .f32 v, .float .f32 v]) ∧ ∃ m, w' = w.drewN m := by
  obtain ⟨ad', e, hlt, hc⟩ := hr (by simp [flt])
  injection e with e
  subst e
  have e0 : w.cell? ad = some (.float .f32 v) := hc 0 _ rfl
  clear hc hr
  by_cases h1 : c = 1
  · subst h1
    go_enter Try.func54, Try.ntmps54
    go_wp2_with fail
    go_quiet (fail)
    go_wp2_with fail
    go_loop [2, 3, 15] (fun a b i => a = .float .f32 v ∧ b = .float .f32 v ∧ i = .int .i64 0) (fun _ _ i => 0)
    case atStart => exact ⟨rfl, rfl, rfl⟩
    case round =>
      obtain ⟨rfl, rfl, rfl⟩ := hrel
      go_wp2_with fail
      go_ret2
      exact ⟨rfl, _, rfl⟩
  · have h2 : 2 ≤ c := by omega
    go_enter Try.func54, Try.ntmps54
    go_wp2_with fail
    go_quiet (fail)
    go_wp2_with fail
    go_loop [2, 3, 15] (fun a b i => a = .float .f32 v ∧ b = .float .f32 v ∧ i = .int .i64 0) (fun _ _ i => 0)
    case atStart => exact ⟨rfl, rfl, rfl⟩
    case round =>
      obtain ⟨rfl, rfl, rfl⟩ := hrel
      go_wp2_with fail
      go_ret2
      exact ⟨rfl, _, rfl⟩

theorem drewN_ext {w w' : World} (h : ∃ m, w' = w.drewN m) : Ext w w' := Ext.of_quiet h

theorem extremes_all (ad : Addr) (n c : Nat) (l : List Nat) (w : World) (hn : l.length = n) (hr : Rd w (some ad) (flt l)) (h1 : 1 ≤ n) (hb : n ≤ 4000000000) (hcap : n ≤ c) :
    Calls Try.prog 54 #[.slice (some ad) n c] w fun e w' => e = .returned (.tuple #[.float .f32 (extr l).1, .float .f32 (extr l).2]) ∧ Ext w w' := by
  by_cases h : n = 1
  · subst h
    match l, hn with
    | [v], _ => exact (extremes_one ad c v w hr hcap).mono fun _ _ ⟨he, hw⟩ => ⟨he, drewN_ext hw⟩
  · exact (extremes_any ad n c l w hn hr (by omega) hb hcap).mono fun _ _ ⟨he, hw⟩ => ⟨he, drewN_ext hw⟩
end Go.Proofs.Ytdfegkpdnofdoaa
