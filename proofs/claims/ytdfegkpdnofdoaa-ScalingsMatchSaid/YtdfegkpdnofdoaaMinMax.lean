/- Contracts: slices.Min and slices.Max of singles that are no NaN. -/
import Derived.Test.YtdfegkpdnofdoaaExtrQ
import Derived.Test.YtdfegkpdnofdoaaBaseA
import Derived.Deep.QuietTactic
import Derived.BigQuiet
namespace Go.Proofs.Ytdfegkpdnofdoaa
open Go.RowKit
attribute [local go_sem ↓] Go.wp_at_zero Go.wp_at_succ

theorem run_min_flo {x y : Nat} {o : Ordering} (h : FloatKind.f32.format.order x y = some o) (ts : Array TypeId) (t : TypeId) (w : World) :
    (Builtin.min_ ts t #[.float .f32 x, .float .f32 y]).run Try.prog w = .ok (.float .f32 (minF x y)) w := by
  have e : (Builtin.min_ ts t #[.float .f32 x, .float .f32 y]) = Builtin.min2 (.float .f32 x) (.float .f32 y) := by
    simp [Builtin.min_]
  rw [e]
  unfold Builtin.min2 minF
  simp only [h]
  cases o <;> rfl
theorem run_max_flo {x y : Nat} {o : Ordering} (h : FloatKind.f32.format.order x y = some o) (ts : Array TypeId) (t : TypeId) (w : World) :
    (Builtin.max_ ts t #[.float .f32 x, .float .f32 y]).run Try.prog w = .ok (.float .f32 (maxF x y)) w := by
  have e : (Builtin.max_ ts t #[.float .f32 x, .float .f32 y]) = Builtin.max2 (.float .f32 x) (.float .f32 y) := by
    simp [Builtin.max_]
  rw [e]
  unfold Builtin.max2 maxF
  simp only [h]
  cases o <;> rfl
theorem min_num {x y : Nat} (hx : Num x) (hy : Num y) : Num (minF x y) := by
  unfold minF
  split
  · exact hx
  · exact hy
  · split
    · exact hx
    · exact hy
theorem max_num {x y : Nat} (hx : Num x) (hy : Num y) : Num (maxF x y) := by
  unfold maxF
  split
  · exact hy
  · exact hx
  · split
    · exact hy
    · exact hx

set_option maxRecDepth 100000 in
set_option maxHeartbeats 1600000 in
theorem sMin_any (A : Option Addr) (n c : Nat) (l : List Nat) (w : World) (hn : l.length = n) (hr : Rd w A (flt l)) (h1 : 1 ≤ n) (hb : n ≤ 4000000000) (hl : ∀ b ∈ l, Num b) :
    Calls Try.prog 25 #[.slice A n c] w fun e w' => e = .returned (.float .f32 (mins l)) ∧ w' = w := by
  obtain ⟨v, r, rfl⟩ : ∃ v r, l = v :: r := by
    cases l with
    | nil => simp at hn; omega
    | cons v r => exact ⟨v, r, rfl⟩
  obtain ⟨ad, rfl, hlt, hc⟩ := hr (by simp [flt])
  have e0 : w.cell? ad = some (.float .f32 v) := hc 0 _ rfl
  have HH := hidA hc
  have hv : Num v := hl v (by simp)
  have Hl := hidA (fun b hb => hl b (List.mem_cons_of_mem v hb))
  have Hn := hidA (show r.length + 1 = n from by simpa using hn)
  have Hc := hidA (show ∀ k, (h : k < r.length) → w.cell? ⟨ad.block, ad.off + (k + 1), none⟩ = some (.float .f32 r[k]) from fun k hk => by
    rw [show (⟨ad.block, ad.off + (k + 1), none⟩ : Addr) = ad.add (k + 1) from by rw [add_pos _ (by omega)]]
    exact HH.out (k + 1) _ (by simp [flt, hk]))
  clear hc hn hr hl HH
  go_enter Try.func25, Try.ntmps25
  go_wp2_with fail
  go_loop [3, 4] (fun a i => ∃ k : Nat, k ≤ r.length ∧ i = .int .i64 ((k + 1 : Nat) : Int) ∧ a = .float .f32 ((r.take k).foldl minF v) ∧ Num ((r.take k).foldl minF v)) (fun _ i => n + 1 - (intOf i).toNat)
  case atStart => exact ⟨0, Nat.zero_le _, rfl, rfl, hv⟩
  case round =>
    obtain ⟨k, hk, rfl, rfl, hm⟩ := hrel
    clear e0 hv
    by_cases hlt2 : k < r.length
    · have e1 := Hc.out k hlt2
      have hkn : ((k + 1 : Nat) : Int) < n := by have := Hn.out; omega
      have Ht : Hid ((r.take (k + 1)).foldl minF v = minF ((r.take k).foldl minF v) r[k]) := by
        show _ = _
        rw [List.take_succ_eq_append_getElem hlt2, List.foldl_append]
        rfl
      have hu : Num r[k] := Hl.out _ (List.getElem_mem hlt2)
      obtain ⟨m, hm'⟩ : ∃ m, (r.take k).foldl minF v = m := ⟨_, rfl⟩
      rw [hm'] at hm Ht ⊢
      obtain ⟨u, hu'⟩ : ∃ u, r[k] = u := ⟨_, rfl⟩
      rw [hu'] at e1 Ht hu
      obtain ⟨o, ho⟩ := ord_num hm hu
      have mn := run_min_flo (x := m) (y := u) (o := o) ho
      have Hx := hidA (min_num hm hu)
      clear ho hm' hu'
      generalize minF m u = z at *
      go_wp2_with fail
      go_round
      case rel => exact ⟨k + 1, by omega, by go_num, by rw [Ht.out], by rw [Ht.out]; exact Hx.out⟩
      case measure => simp [intOf]; omega
    · obtain rfl : k = r.length := by omega
      have hkn : ¬ ((r.length + 1 : Nat) : Int) < n := by have := Hn.out; omega
      go_wp2_with fail
      go_ret
      exact ⟨rfl, rfl⟩

set_option maxRecDepth 100000 in
set_option maxHeartbeats 1600000 in
theorem sMax_any (A : Option Addr) (n c : Nat) (l : List Nat) (w : World) (hn : l.length = n) (hr : Rd w A (flt l)) (h1 : 1 ≤ n) (hb : n ≤ 4000000000) (hl : ∀ b ∈ l, Num b) :
    Calls Try.prog 26 #[.slice A n c] w fun e w' => e = .returned (.float .f32 (maxs l)) ∧ w' = w := by
  obtain ⟨v, r, rfl⟩ : ∃ v r, l = v :: r := by
    cases l with
    | nil => simp at hn; omega
    | cons v r => exact ⟨v, r, rfl⟩
  obtain ⟨ad, rfl, hlt, hc⟩ := hr (by simp [flt])
  have e0 : w.cell? ad = some (.float .f32 v) := hc 0 _ rfl
  have HH := hidA hc
  have hv : Num v := hl v (by simp)
  have Hl := hidA (fun b hb => hl b (List.mem_cons_of_mem v hb))
  have Hn := hidA (show r.length + 1 = n from by simpa using hn)
  have Hc := hidA (show ∀ k, (h : k < r.length) → w.cell? ⟨ad.block, ad.off + (k + 1), none⟩ = some (.float .f32 r[k]) from fun k hk => by
    rw [show (⟨ad.block, ad.off + (k + 1), none⟩ : Addr) = ad.add (k + 1) from by rw [add_pos _ (by omega)]]
    exact HH.out (k + 1) _ (by simp [flt, hk]))
  clear hc hn hr hl HH
  go_enter Try.func26, Try.ntmps26
  go_wp2_with fail
  go_loop [3, 4] (fun a i => ∃ k : Nat, k ≤ r.length ∧ i = .int .i64 ((k + 1 : Nat) : Int) ∧ a = .float .f32 ((r.take k).foldl maxF v) ∧ Num ((r.take k).foldl maxF v)) (fun _ i => n + 1 - (intOf i).toNat)
  case atStart => exact ⟨0, Nat.zero_le _, rfl, rfl, hv⟩
  case round =>
    obtain ⟨k, hk, rfl, rfl, hm⟩ := hrel
    clear e0 hv
    by_cases hlt2 : k < r.length
    · have e1 := Hc.out k hlt2
      have hkn : ((k + 1 : Nat) : Int) < n := by have := Hn.out; omega
      have Ht : Hid ((r.take (k + 1)).foldl maxF v = maxF ((r.take k).foldl maxF v) r[k]) := by
        show _ = _
        rw [List.take_succ_eq_append_getElem hlt2, List.foldl_append]
        rfl
      have hu : Num r[k] := Hl.out _ (List.getElem_mem hlt2)
      obtain ⟨m, hm'⟩ : ∃ m, (r.take k).foldl maxF v = m := ⟨_, rfl⟩
      rw [hm'] at hm Ht ⊢
      obtain ⟨u, hu'⟩ : ∃ u, r[k] = u := ⟨_, rfl⟩
      rw [hu'] at e1 Ht hu
      obtain ⟨o, ho⟩ := ord_num hm hu
      have mn := run_max_flo (x := m) (y := u) (o := o) ho
      have Hx := hidA (max_num hm hu)
      clear ho hm' hu'
      generalize maxF m u = z at *
      go_wp2_with fail
      go_round
      case rel => exact ⟨k + 1, by omega, by go_num, by rw [Ht.out], by rw [Ht.out]; exact Hx.out⟩
      case measure => simp [intOf]; omega
    · obtain rfl : k = r.length := by omega
      have hkn : ¬ ((r.length + 1 : Nat) : Int) < n := by have := Hn.out; omega
      go_wp2_with fail
      go_ret
      exact ⟨rfl, rfl⟩
end Go.Proofs.Ytdfegkpdnofdoaa
