/- The walk of the law SuitsMatch. -/
import Derived.Test.YtjkalnboijkikaaDoorSuitB
import Derived.Deep.DeepCutAuto
import Derived.BigRegion
import Derived.BigQuiet
namespace Go.Proofs.YtjkalnboijkikaaDoor
open Go.RowKit
attribute [local go_sem ↓] Go.wp_at_zero Go.wp_at_succ

theorem put_mk (l : List Value) (D : List Deferred) (d : Nat) (v : Value) : Act.put ⟨l.toArray, D⟩ (some d) v = ⟨(l.set d v).toArray, D⟩ := by simp [Act.put]
def ifE (b : Bool) (n : Int) : Int := if b then n else 0
theorem when_lt (a b : Nat) (n : Int) (w : World) : Calls Tryd.prog 14 #[.bool (FloatKind.f32.format.order a b == some .lt), .int .i64 n] w fun e w' => e = .returned (.int .i64 (ifE (lt a b) n)) ∧ w = w' := when_any (lt a b) n w
theorem slack_first (v low high soft : Nat) : firstE [numE [v, low, high, soft], ifE (lt high low) 8, ifE (lt soft 0) 3] = slackE v low high soft := by
  unfold slackE ifE
  by_cases h1 : numE [v, low, high, soft] = 0
  · by_cases h2 : lt high low = true
    · simp [firstE, h1, h2]
    · by_cases h3 : lt soft 0 = true
      · simp [firstE, h1, h2, h3]
      · simp [firstE, h1, h2, h3]
  · simp [firstE, h1]
def negsE (g1 g2 : Nat) : Int := ifE (lt g1 0 || lt g2 0) 3
theorem negs_no (g1 g2 : Nat) (w : World) (h : (FloatKind.f32.format.order g1 0 == some .lt) = false) : Calls Tryd.prog 14 #[.bool (FloatKind.f32.format.order g2 0 == some .lt), .int .i64 3] w fun e w' => e = .returned (.int .i64 (negsE g1 g2)) ∧ w = w' := by
  have h2 : lt g1 0 = false := h
  unfold negsE
  rw [h2, Bool.false_or]
  exact when_lt g2 0 3 w
theorem negs_yes (g1 g2 : Nat) (w : World) (h : (FloatKind.f32.format.order g1 0 == some .lt) = true) : Calls Tryd.prog 14 #[.bool true, .int .i64 3] w fun e w' => e = .returned (.int .i64 (negsE g1 g2)) ∧ w = w' := by
  have h2 : lt g1 0 = true := h
  unfold negsE
  rw [h2, Bool.true_or]
  exact when_any true 3 w
section
variable (s : ByteArray) (a0 a1 a2 a3 a4 a5 a6 a7 a8 a9 g0 g1 g2 : Nat) (p q : Int)
theorem suit_first : firstE [kindE s a0 a1 a2 a3 a4 a5 a6 a7 a8 a9 p q, numE [g0, g1, g2], negsE g1 g2] = suitE s a0 a1 a2 a3 a4 a5 a6 a7 a8 a9 p q g0 g1 g2 := by
  unfold suitE groundE negsE ifE
  by_cases h1 : kindE s a0 a1 a2 a3 a4 a5 a6 a7 a8 a9 p q = 0
  · by_cases h2 : numE [g0, g1, g2] = 0
    · by_cases h3 : (lt g1 0 || lt g2 0) = true
      · simp only [firstE, h1, h2, h3]; simp
      · simp only [firstE, h1, h2, h3]; simp
    · simp [firstE, h1, h2]
  · simp [firstE, h1]
end

set_option maxRecDepth 100000 in
set_option maxHeartbeats 6400000 in
theorem suits_low (s : ByteArray) (a0 a1 a2 a3 a4 a5 a6 a7 a8 a9 g0 g1 g2 v low high soft : Nat) (p q : Int) (w : World) (hs : s.size ≤ 9223372036854775807) (hL : (FloatKind.f32.format.order g1 0 == some .lt) = true) (hE : suitE s a0 a1 a2 a3 a4 a5 a6 a7 a8 a9 p q g0 g1 g2 ≠ 0) :
    Calls Tryd.prog 4 #[.agg #[.string s, .float .f32 a0, .float .f32 a1, .float .f32 a2, .float .f32 a3, .float .f32 a4, .float .f32 a5, .float .f32 a6, .float .f32 a7, .float .f32 a8, .float .f32 a9, .int .i64 p, .int .i64 q], .agg #[.float .f32 g0, .float .f32 g1, .float .f32 g2], .float .f32 v, .float .f32 low, .float .f32 high, .float .f32 soft] w fun e w' => e = .returned (.bool true) ∧ Ext w w' := by
  have HKE := fun (w : World) => hidA (kindError_any s a0 a1 a2 a3 a4 a5 a6 a7 a8 a9 p q w hs)
  have HL := hidA hL
  have HE := hidA hE
  have z0 : (FloatKind.f32.format.order 0 0 == some .eq) = true := by decide +kernel
  clear hE
  go_enter Tryd.func4, Tryd.ntmps4
  go_upto_region 1 with fail
  go_cut [13, 14] from 18 to 25 (fun s13 s14 wx => ∃ (r : Nat), s13 = .float .f32 r ∧ s14 = .int .i64 (slackE v low high soft) ∧ (slackE v low high soft = 0 → r = slackF v low high soft) ∧ (slackE v low high soft ≠ 0 → r = 0) ∧ Ext ((w.alloc (.cells #[.string s, .float .f32 a0, .float .f32 a1, .float .f32 a2, .float .f32 a3, .float .f32 a4, .float .f32 a5, .float .f32 a6, .float .f32 a7, .float .f32 a8, .float .f32 a9, .int .i64 p, .int .i64 q] 28)).alloc (.cells #[.float .f32 g0, .float .f32 g1, .float .f32 g2] 32)) wx)
  case first =>
    by_cases hz : slackE v low high soft = 0
    · go_wp2_with fail
      refine (Slack_ok v low high soft _ hz).mono ?_
      rintro e w1 ⟨rfl, hb1⟩
      go_wp2_with fail
      go_meet
      case rel => exact ⟨_, rfl, by rw [hz], fun _ => rfl, fun h => absurd hz h, (by repeat (first | exact Ext.refl _ | assumption | refine Ext.setCell ?_ (by first | (simp; done) | (simp; omega)) _ | refine Ext.drewN ?_ _ | refine Ext.alloc ?_ _ | refine Ext.drew ?_ | refine Ext.trans ?_ (by assumption)))⟩
    · go_wp2_with fail
      refine (Slack_bad v low high soft _ hz).mono ?_
      rintro e w1 ⟨rfl, hb1⟩
      go_wp2_with fail
      go_meet
      case rel => exact ⟨_, rfl, rfl, fun h => absurd h hz, fun _ => rfl, (by repeat (first | exact Ext.refl _ | assumption | refine Ext.setCell ?_ (by first | (simp; done) | (simp; omega)) _ | refine Ext.drewN ?_ _ | refine Ext.alloc ?_ _ | refine Ext.drew ?_ | refine Ext.trans ?_ (by assumption)))⟩
  case rest =>
    obtain ⟨r, rfl, rfl, hr1, hr2, hb1⟩ := hcut
    obtain ⟨w1, hw1⟩ : ∃ w1, w1 = wc := ⟨_, rfl⟩
    subst hw1
    have Hr1 := hidA hr1
    have Hr2 := hidA hr2
    have hK : Bk w1 w.heap.size 28 #[.string s, .float .f32 a0, .float .f32 a1, .float .f32 a2, .float .f32 a3, .float .f32 a4, .float .f32 a5, .float .f32 a6, .float .f32 a7, .float .f32 a8, .float .f32 a9, .int .i64 p, .int .i64 q] := ((Bk.new' rfl).alloc _).ext hb1
    have hG : Bk w1 (w.heap.size + 1) 32 #[.float .f32 g0, .float .f32 g1, .float .f32 g2] := (Bk.new' (by simp)).ext hb1
    have hx1 : Ext w w1 := (((Ext.refl w).alloc _).alloc _).trans hb1
    clear hr1 hr2 hb1
    go_upto_region 3 with (first
      | (go_at_call 13; refine (numberError_any _ 4 4 [v, low, high, soft] _ rfl (Rd.new (by first | rfl | simp) rfl) (by omega)).mono ?_; rintro e w' ⟨rfl, rfl⟩)
      | (go_at_call_of 14 (Value.int IntKind.i64 8); refine (when_lt high low 8 _).mono ?_; rintro e w' ⟨rfl, rfl⟩)
      | (go_at_call 14; refine (when_lt soft 0 3 _).mono ?_; rintro e w' ⟨rfl, rfl⟩)
      | (go_at_call 12; refine (first_any _ 3 3 [numE [v, low, high, soft], ifE (lt high low) 8, ifE (lt soft 0) 3] _ rfl (Rd.new (by first | rfl | simp) rfl) (by omega)).mono ?_; rw [slack_first]; rintro e w' ⟨rfl, rfl⟩))
    go_cut [73] from 41 to 72 (fun s73 wx => s73 = .bool false ∧ Ext w1 wx)
    case first =>
      by_cases hz : slackE v low high soft = 0
      · obtain rfl := Hr1.out hz
        obtain ⟨c0, c1, c2, c3⟩ := slackE_zero hz
        have t1 : (slackE v low high soft != 0) = false := by simpa using hz
        have t2 : (slackE v low high soft == 0) = true := by simpa using hz
        clear hz Hr1 Hr2
        go_wp2_with (first
          | (go_at_call 6; refine (grows_any _).mono ?_; rintro e w2 ⟨rfl, hb2⟩)
          | (go_at_call 16; refine (slackOf_any v low high soft _ c0 c1 c2 c3).mono ?_; rintro e w' ⟨rfl, hw'⟩; rw [hw']; clear hw' w')
          | (go_at_call 15; refine (bit_same _ _).mono ?_; rintro e w' ⟨rfl, hw'⟩; rw [hw']; clear hw' w'))
        go_meet
        case rel => exact ⟨rfl, (by repeat (first | exact Ext.refl _ | assumption | refine Ext.setCell ?_ (by first | (simp; done) | (simp; omega)) _ | refine Ext.drewN ?_ _ | refine Ext.alloc ?_ _ | refine Ext.drew ?_ | refine Ext.trans ?_ (by assumption)))⟩
      · obtain rfl := Hr2.out hz
        have t1 : (slackE v low high soft != 0) = true := by simpa using hz
        have t2 : (slackE v low high soft == 0) = false := by simpa using hz
        clear hz Hr1 Hr2
        go_wp2_with (first
          | (go_at_call 6; refine (grows_any _).mono ?_; rintro e w2 ⟨rfl, hb2⟩))
        go_meet
        case rel => exact ⟨by simp, (by repeat (first | exact Ext.refl _ | assumption | refine Ext.setCell ?_ (by first | (simp; done) | (simp; omega)) _ | refine Ext.drewN ?_ _ | refine Ext.alloc ?_ _ | refine Ext.drew ?_ | refine Ext.trans ?_ (by assumption)))⟩
    case rest =>
      obtain ⟨rfl, hx2⟩ := hcut
      obtain ⟨w2, hw2⟩ : ∃ w2, w2 = wc := ⟨_, rfl⟩
      subst hw2
      have hK2 := hK.ext hx2
      have hG2 := hG.ext hx2
      have d0 := hK2.cell 0
      have d1 := hK2.cell 1
      have d2 := hK2.cell 2
      have d3 := hK2.cell 3
      have d4 := hK2.cell 4
      have d5 := hK2.cell 5
      have d6 := hK2.cell 6
      have d7 := hK2.cell 7
      have d8 := hK2.cell 8
      have d9 := hK2.cell 9
      have d10 := hK2.cell 10
      have d11 := hK2.cell 11
      have d12 := hK2.cell 12
      have e0 := hG2.cell 0
      have e1 := hG2.cell 1
      have e2 := hG2.cell 2
      clear Hr1 Hr2
      go_wp2_with fail
      refine (Suit_bad s a0 a1 a2 a3 a4 a5 a6 a7 a8 a9 g0 g1 g2 p q _ hs HE.out).mono ?_
      rintro e w3 ⟨rfl, hb3⟩
      clear d0 d1 d2 d3 d4 d5 d6 d7 d8 d9 d10 d11 d12 e0 e1 e2
      have hK3 := hK2.ext hb3
      have hG3 := hG2.ext hb3
      have hx3 := (hx1.trans hx2).trans hb3
      have s0 : ∀ w', Ext w3 w' → w'.cell? ⟨w.heap.size, 0, none⟩ = some (.string s) := fun w' h => (hK3.ext h).cell 0
      have s1 : ∀ w', Ext w3 w' → w'.cell? ⟨w.heap.size, 1, none⟩ = some (.float .f32 a0) := fun w' h => (hK3.ext h).cell 1
      have s2 : ∀ w', Ext w3 w' → w'.cell? ⟨w.heap.size, 2, none⟩ = some (.float .f32 a1) := fun w' h => (hK3.ext h).cell 2
      have s3 : ∀ w', Ext w3 w' → w'.cell? ⟨w.heap.size, 3, none⟩ = some (.float .f32 a2) := fun w' h => (hK3.ext h).cell 3
      have s4 : ∀ w', Ext w3 w' → w'.cell? ⟨w.heap.size, 4, none⟩ = some (.float .f32 a3) := fun w' h => (hK3.ext h).cell 4
      have s5 : ∀ w', Ext w3 w' → w'.cell? ⟨w.heap.size, 5, none⟩ = some (.float .f32 a4) := fun w' h => (hK3.ext h).cell 5
      have s6 : ∀ w', Ext w3 w' → w'.cell? ⟨w.heap.size, 6, none⟩ = some (.float .f32 a5) := fun w' h => (hK3.ext h).cell 6
      have s7 : ∀ w', Ext w3 w' → w'.cell? ⟨w.heap.size, 7, none⟩ = some (.float .f32 a6) := fun w' h => (hK3.ext h).cell 7
      have s8 : ∀ w', Ext w3 w' → w'.cell? ⟨w.heap.size, 8, none⟩ = some (.float .f32 a7) := fun w' h => (hK3.ext h).cell 8
      have s9 : ∀ w', Ext w3 w' → w'.cell? ⟨w.heap.size, 9, none⟩ = some (.float .f32 a8) := fun w' h => (hK3.ext h).cell 9
      have s10 : ∀ w', Ext w3 w' → w'.cell? ⟨w.heap.size, 10, none⟩ = some (.float .f32 a9) := fun w' h => (hK3.ext h).cell 10
      have s11 : ∀ w', Ext w3 w' → w'.cell? ⟨w.heap.size, 11, none⟩ = some (.int .i64 p) := fun w' h => (hK3.ext h).cell 11
      have s12 : ∀ w', Ext w3 w' → w'.cell? ⟨w.heap.size, 12, none⟩ = some (.int .i64 q) := fun w' h => (hK3.ext h).cell 12
      have u0 : ∀ w', Ext w3 w' → w'.cell? ⟨w.heap.size + 1, 0, none⟩ = some (.float .f32 g0) := fun w' h => (hG3.ext h).cell 0
      have u1 : ∀ w', Ext w3 w' → w'.cell? ⟨w.heap.size + 1, 1, none⟩ = some (.float .f32 g1) := fun w' h => (hG3.ext h).cell 1
      have u2 : ∀ w', Ext w3 w' → w'.cell? ⟨w.heap.size + 1, 2, none⟩ = some (.float .f32 g2) := fun w' h => (hG3.ext h).cell 2
      have hl' := HL.out
      clear hK hG hK2 hG2 hL
      go_upto_region 6 with fail
      go_cut [15] from 80 to 100 (fun s15 wx => s15 = .int .i64 (suitE s a0 a1 a2 a3 a4 a5 a6 a7 a8 a9 p q g0 g1 g2) ∧ Ext w3 wx)
      case first =>
        refine wp_region_noPanic ?_
        refine wp_region_held_drew (S := fun w' => Ext w3 w') (by kernel_rfl) ?_ (fun hHeld => ?_)
        · (repeat (first | exact Ext.refl _ | assumption | refine Ext.setCell ?_ (by first | (simp; done) | (simp; omega)) _ | refine Ext.drewN ?_ _ | refine Ext.alloc ?_ _ | refine Ext.drew ?_ | refine Ext.trans ?_ (by assumption)))
        refine wpAnyH_take (i := 0) (oi := ?o2x0) (v := ?v2x0) ?hi2x0 (by kernel_rfl) ?hf2x0 ?hr2x0 (fun _ _ _ h => h) ?hy2x0 (by assumption) ?rest2x0
        case hi2x0 => (simp only [List.getElem?_toArray, List.getElem?_cons_zero]; exact rfl)
        case hf2x0 => kernel_rfl
        case hr2x0 => kernel_rfl
        case hy2x0 => (refine Or.inl ⟨by rfl, ?_⟩; intro w hSw; (try dsimp only at hSw); go_simp; try with_reducible rfl)
        simp only [put_mk, List.set_cons_succ, List.set_cons_zero]
        refine wpAnyH_take (i := 2) (oi := ?o3x2) (v := ?v3x2) ?hi3x2 (by kernel_rfl) ?hf3x2 ?hr3x2 (fun _ _ _ h => h) ?hy3x2 (by assumption) ?rest3x2
        case hi3x2 => (simp only [List.getElem?_toArray, List.getElem?_cons_succ, List.getElem?_cons_zero]; exact rfl)
        case hf3x2 => kernel_rfl
        case hr3x2 => kernel_rfl
        case hy3x2 => (refine Or.inl ⟨by rfl, ?_⟩; intro w hSw; (try dsimp only at hSw); go_simp; try with_reducible rfl)
        simp only [put_mk, List.set_cons_succ, List.set_cons_zero]
        refine wpAnyH_take (i := 3) (oi := ?o4x3) (v := ?v4x3) ?hi4x3 (by kernel_rfl) ?hf4x3 ?hr4x3 (fun _ _ _ h => h) ?hy4x3 (by assumption) ?rest4x3
        case hi4x3 => (simp only [List.getElem?_toArray, List.getElem?_cons_succ, List.getElem?_cons_zero]; exact rfl)
        case hf4x3 => kernel_rfl
        case hr4x3 => kernel_rfl
        case hy4x3 => (refine Or.inl ⟨by rfl, ?_⟩; intro w hSw; (try dsimp only at hSw); go_simp; try with_reducible rfl)
        simp only [put_mk, List.set_cons_succ, List.set_cons_zero]
        refine wpAnyH_take (i := 4) (oi := ?o5x4) (v := ?v5x4) ?hi5x4 (by kernel_rfl) ?hf5x4 ?hr5x4 (fun _ _ _ h => h) ?hy5x4 (by assumption) ?rest5x4
        case hi5x4 => (simp only [List.getElem?_toArray, List.getElem?_cons_succ, List.getElem?_cons_zero]; exact rfl)
        case hf5x4 => kernel_rfl
        case hr5x4 => kernel_rfl
        case hy5x4 => (refine Or.inl ⟨by rfl, ?_⟩; intro w hSw; (try dsimp only at hSw); go_simp; try with_reducible rfl)
        simp only [put_mk, List.set_cons_succ, List.set_cons_zero]
        refine wpAnyH_take (i := 5) (oi := ?o6x5) (v := ?v6x5) ?hi6x5 (by kernel_rfl) ?hf6x5 ?hr6x5 (fun _ _ _ h => h) ?hy6x5 (by assumption) ?rest6x5
        case hi6x5 => (simp only [List.getElem?_toArray, List.getElem?_cons_succ, List.getElem?_cons_zero]; exact rfl)
        case hf6x5 => kernel_rfl
        case hr6x5 => kernel_rfl
        case hy6x5 => (refine Or.inl ⟨by rfl, ?_⟩; intro w hSw; (try dsimp only at hSw); go_simp; try with_reducible rfl)
        simp only [put_mk, List.set_cons_succ, List.set_cons_zero]
        refine wpAnyH_take (i := 6) (oi := ?o7x6) (v := ?v7x6) ?hi7x6 (by kernel_rfl) ?hf7x6 ?hr7x6 (fun _ _ _ h => h) ?hy7x6 (by assumption) ?rest7x6
        case hi7x6 => (simp only [List.getElem?_toArray, List.getElem?_cons_succ, List.getElem?_cons_zero]; exact rfl)
        case hf7x6 => kernel_rfl
        case hr7x6 => kernel_rfl
        case hy7x6 => (refine Or.inl ⟨by rfl, ?_⟩; intro w hSw; (try dsimp only at hSw); go_simp; try with_reducible rfl)
        simp only [put_mk, List.set_cons_succ, List.set_cons_zero]
        refine wpAnyH_take (i := 7) (oi := ?o8x7) (v := ?v8x7) ?hi8x7 (by kernel_rfl) ?hf8x7 ?hr8x7 (fun _ _ _ h => h) ?hy8x7 (by assumption) ?rest8x7
        case hi8x7 => (simp only [List.getElem?_toArray, List.getElem?_cons_succ, List.getElem?_cons_zero]; exact rfl)
        case hf8x7 => kernel_rfl
        case hr8x7 => kernel_rfl
        case hy8x7 => (refine Or.inl ⟨by rfl, ?_⟩; intro w hSw; (try dsimp only at hSw); go_simp; try with_reducible rfl)
        simp only [put_mk, List.set_cons_succ, List.set_cons_zero]
        refine wpAnyH_take (i := 10) (oi := ?o9x10) (v := ?v9x10) ?hi9x10 (by kernel_rfl) ?hf9x10 ?hr9x10 (fun _ _ _ h => h) ?hy9x10 (by assumption) ?rest9x10
        case hi9x10 => (simp only [List.getElem?_toArray, List.getElem?_cons_succ, List.getElem?_cons_zero]; exact rfl)
        case hf9x10 => kernel_rfl
        case hr9x10 => kernel_rfl
        case hy9x10 => (refine Or.inl ⟨by rfl, ?_⟩; intro w hSw; (try dsimp only at hSw); go_simp; try with_reducible rfl)
        simp only [put_mk, List.set_cons_succ, List.set_cons_zero]
        refine wpAnyH_take (i := 11) (oi := ?o10x11) (v := ?v10x11) ?hi10x11 (by kernel_rfl) ?hf10x11 ?hr10x11 (fun _ _ _ h => h) ?hy10x11 (by assumption) ?rest10x11
        case hi10x11 => (simp only [List.getElem?_toArray, List.getElem?_cons_succ, List.getElem?_cons_zero]; exact rfl)
        case hf10x11 => kernel_rfl
        case hr10x11 => kernel_rfl
        case hy10x11 => (refine Or.inl ⟨by rfl, ?_⟩; intro w hSw; (try dsimp only at hSw); go_simp; try with_reducible rfl)
        simp only [put_mk, List.set_cons_succ, List.set_cons_zero]
        refine wpAnyH_take (i := 12) (oi := ?o11x12) (v := ?v11x12) ?hi11x12 (by kernel_rfl) ?hf11x12 ?hr11x12 (fun _ _ _ h => h) ?hy11x12 (by assumption) ?rest11x12
        case hi11x12 => (simp only [List.getElem?_toArray, List.getElem?_cons_succ, List.getElem?_cons_zero]; exact rfl)
        case hf11x12 => kernel_rfl
        case hr11x12 => kernel_rfl
        case hy11x12 => (refine Or.inl ⟨by rfl, ?_⟩; intro w hSw; (try dsimp only at hSw); go_simp; try with_reducible rfl)
        simp only [put_mk, List.set_cons_succ, List.set_cons_zero]
        refine wpAnyH_ready (rs := [1, 8]) (by kernel_rfl) (by simp) ?_
        refine (AllReadyH.cons (o := ?o12x1) ?hi12x1 (fun K hK => ?_) (AllReadyH.cons (o := ?o12x8) ?hi12x8 (fun K hK => ?_) AllReadyH.nil))
        case hi12x1 => (simp only [List.getElem?_toArray, List.getElem?_cons_succ, List.getElem?_cons_zero]; exact rfl)
        case hi12x8 => (simp only [List.getElem?_toArray, List.getElem?_cons_succ, List.getElem?_cons_zero]; exact rfl)
        · go_simp
          refine ((HKE _).out).mono ?_
          rintro e w5 ⟨rfl, hb5⟩
          refine hK.out _ _ ?_ (fun hHeld => ?_)
          · (repeat (first | exact Ext.refl _ | assumption | refine Ext.setCell ?_ (by first | (simp; done) | (simp; omega)) _ | refine Ext.drewN ?_ _ | refine Ext.alloc ?_ _ | refine Ext.drew ?_ | refine Ext.trans ?_ (by assumption)))
          clear hK K
          refine wpAnyH_ready (rs := [8]) (by kernel_rfl) (by simp) ?_
          refine AllReadyH.cons (o := ?o13x8) ?hi13x8 (fun K hK => ?_) AllReadyH.nil
          case hi13x8 => (simp only [List.getElem?_toArray, List.getElem?_cons_succ, List.getElem?_cons_zero]; exact rfl)
          go_simp
          refine hK.out _ _ ?_ (fun hHeld => ?_)
          · (repeat (first | exact Ext.refl _ | assumption | refine Ext.setCell ?_ (by first | (simp; done) | (simp; omega)) _ | refine Ext.drewN ?_ _ | refine Ext.alloc ?_ _ | refine Ext.drew ?_ | refine Ext.trans ?_ (by assumption)))
          clear hK K
          refine wpAnyH_ready (rs := [9]) (by kernel_rfl) (by simp) ?_
          refine AllReadyH.cons (o := ?o14x9) ?hi14x9 (fun K hK => ?_) AllReadyH.nil
          case hi14x9 => (simp only [List.getElem?_toArray, List.getElem?_cons_succ, List.getElem?_cons_zero]; exact rfl)
          go_simp
          refine (numberError_any _ 3 3 [g0, g1, g2] _ rfl ?_ (by omega)).mono ?_
          · first | exact Rd.new (by first | rfl | simp) rfl | exact (Rd.new (by first | rfl | simp) rfl).ext hb5 | exact ((Rd.new (by first | rfl | simp) rfl).ext ((Ext.refl _).drew)).ext hb5
          rintro e w' ⟨rfl, rfl⟩
          refine hK.out _ _ ?_ (fun hHeld => ?_)
          · (repeat (first | exact Ext.refl _ | assumption | refine Ext.setCell ?_ (by first | (simp; done) | (simp; omega)) _ | refine Ext.drewN ?_ _ | refine Ext.alloc ?_ _ | refine Ext.drew ?_ | refine Ext.trans ?_ (by assumption)))
          clear hK K
          refine wpAnyH_take (i := 13) (oi := ?o15x13) (v := ?v15x13) ?hi15x13 (by kernel_rfl) ?hf15x13 ?hr15x13 (fun _ _ _ h => h) ?hy15x13 (by assumption) ?rest15x13
          case hi15x13 => (simp only [List.getElem?_toArray, List.getElem?_cons_succ, List.getElem?_cons_zero]; exact rfl)
          case hf15x13 => kernel_rfl
          case hr15x13 => kernel_rfl
          case hy15x13 => (refine Or.inl ⟨by rfl, ?_⟩; intro w hSw; (try dsimp only at hSw); go_simp; try with_reducible rfl)
          simp only [put_mk, List.set_cons_succ, List.set_cons_zero]
          refine wpAnyH_take (i := 14) (oi := ?o16x14) (v := undef) ?hi16x14 (by kernel_rfl) ?hf16x14 ?hr16x14 (fun _ _ _ h => h) ?hy16x14 (by assumption) ?rest16x14
          case hi16x14 => (simp only [List.getElem?_toArray, List.getElem?_cons_succ, List.getElem?_cons_zero]; exact rfl)
          case hf16x14 => kernel_rfl
          case hr16x14 => kernel_rfl
          case hy16x14 => exact Or.inr ⟨by rfl, rfl⟩
          simp only [put_mk, List.set_cons_succ, List.set_cons_zero]
          refine wpAnyH_take (i := 15) (oi := ?o17x15) (v := undef) ?hi17x15 (by kernel_rfl) ?hf17x15 ?hr17x15 (fun _ _ _ h => h) ?hy17x15 (by assumption) ?rest17x15
          case hi17x15 => (simp only [List.getElem?_toArray, List.getElem?_cons_succ, List.getElem?_cons_zero]; exact rfl)
          case hf17x15 => kernel_rfl
          case hr17x15 => kernel_rfl
          case hy17x15 => exact Or.inr ⟨by rfl, rfl⟩
          simp only [put_mk, List.set_cons_succ, List.set_cons_zero]
          refine wpAnyH_take (i := 16) (oi := ?o18x16) (v := undef) ?hi18x16 (by kernel_rfl) ?hf18x16 ?hr18x16 (fun _ _ _ h => h) ?hy18x16 (by assumption) ?rest18x16
          case hi18x16 => (simp only [List.getElem?_toArray, List.getElem?_cons_succ, List.getElem?_cons_zero]; exact rfl)
          case hf18x16 => kernel_rfl
          case hr18x16 => kernel_rfl
          case hy18x16 => exact Or.inr ⟨by rfl, rfl⟩
          simp only [put_mk, List.set_cons_succ, List.set_cons_zero]
          refine wpAnyH_take (i := 17) (oi := ?o19x17) (v := ?v19x17) ?hi19x17 (by kernel_rfl) ?hf19x17 ?hr19x17 (fun _ _ _ h => h) ?hy19x17 (by assumption) ?rest19x17
          case hi19x17 => (simp only [List.getElem?_toArray, List.getElem?_cons_succ, List.getElem?_cons_zero]; exact rfl)
          case hf19x17 => kernel_rfl
          case hr19x17 => kernel_rfl
          case hy19x17 => (refine Or.inl ⟨by rfl, ?_⟩; intro w hSw; (try dsimp only at hSw); go_simp; try with_reducible rfl)
          simp only [put_mk, List.set_cons_succ, List.set_cons_zero]
          refine wpAnyH_ready (rs := [18]) (by kernel_rfl) (by simp) ?_
          refine AllReadyH.cons (o := ?o20x18) ?hi20x18 (fun K hK => ?_) AllReadyH.nil
          case hi20x18 => (simp only [List.getElem?_toArray, List.getElem?_cons_succ, List.getElem?_cons_zero]; exact rfl)
          go_simp
          refine (negs_yes g1 g2 _ HL.out).mono ?_
          rintro e w' ⟨rfl, rfl⟩
          refine hK.out _ _ ?_ (fun hHeld => ?_)
          · (repeat (first | exact Ext.refl _ | assumption | refine Ext.setCell ?_ (by first | (simp; done) | (simp; omega)) _ | refine Ext.drewN ?_ _ | refine Ext.alloc ?_ _ | refine Ext.drew ?_ | refine Ext.trans ?_ (by assumption)))
          clear hK K
          refine wpAnyH_ready (rs := [19]) (by kernel_rfl) (by simp) ?_
          refine AllReadyH.cons (o := ?o21x19) ?hi21x19 (fun K hK => ?_) AllReadyH.nil
          case hi21x19 => (simp only [List.getElem?_toArray, List.getElem?_cons_succ, List.getElem?_cons_zero]; exact rfl)
          go_simp
          refine hK.out _ _ ?_ (fun hHeld => ?_)
          · (repeat (first | exact Ext.refl _ | assumption | refine Ext.setCell ?_ (by first | (simp; done) | (simp; omega)) _ | refine Ext.drewN ?_ _ | refine Ext.alloc ?_ _ | refine Ext.drew ?_ | refine Ext.trans ?_ (by assumption)))
          clear hK K
          refine wpAnyH_ready (rs := [20]) (by kernel_rfl) (by simp) ?_
          refine AllReadyH.cons (o := ?o22x20) ?hi22x20 (fun K hK => ?_) AllReadyH.nil
          case hi22x20 => (simp only [List.getElem?_toArray, List.getElem?_cons_succ, List.getElem?_cons_zero]; exact rfl)
          go_simp
          refine (first_any _ 3 3 [kindE s a0 a1 a2 a3 a4 a5 a6 a7 a8 a9 p q, numE [g0, g1, g2], negsE g1 g2] _ rfl (Rd.new (by first | rfl | simp) rfl) (by omega)).mono ?_
          rw [suit_first]
          rintro e w' ⟨rfl, rfl⟩
          refine hK.out _ _ ?_ (fun hHeld => ?_)
          · (repeat (first | exact Ext.refl _ | assumption | refine Ext.setCell ?_ (by first | (simp; done) | (simp; omega)) _ | refine Ext.drewN ?_ _ | refine Ext.alloc ?_ _ | refine Ext.drew ?_ | refine Ext.trans ?_ (by assumption)))
          clear hK K
          refine wpAnyH_take (i := 21) (oi := ?o23x21) (v := ?v23x21) ?hi23x21 (by kernel_rfl) ?hf23x21 ?hr23x21 (fun _ _ _ h => h) ?hy23x21 (by assumption) ?rest23x21
          case hi23x21 => (simp only [List.getElem?_toArray, List.getElem?_cons_succ, List.getElem?_cons_zero]; exact rfl)
          case hf23x21 => kernel_rfl
          case hr23x21 => kernel_rfl
          case hy23x21 => (refine Or.inl ⟨by rfl, ?_⟩; intro w hSw; (try dsimp only at hSw); go_simp; try with_reducible rfl)
          simp only [put_mk, List.set_cons_succ, List.set_cons_zero]
          refine wpAnyH_done (by kernel_rfl) ?_ _
          refine NoPanic.normal ?_
          go_wp2_with fail
          go_meet
          case rel => exact ⟨rfl, (by repeat (first | exact Ext.refl _ | assumption | refine Ext.setCell ?_ (by first | (simp; done) | (simp; omega)) _ | refine Ext.drewN ?_ _ | refine Ext.alloc ?_ _ | refine Ext.drew ?_ | refine Ext.trans ?_ (by assumption)))⟩
        · go_simp
          refine hK.out _ _ ?_ (fun hHeld => ?_)
          · (repeat (first | exact Ext.refl _ | assumption | refine Ext.setCell ?_ (by first | (simp; done) | (simp; omega)) _ | refine Ext.drewN ?_ _ | refine Ext.alloc ?_ _ | refine Ext.drew ?_ | refine Ext.trans ?_ (by assumption)))
          clear hK K
          refine wpAnyH_ready (rs := [1]) (by kernel_rfl) (by simp) ?_
          refine AllReadyH.cons (o := ?o24x1) ?hi24x1 (fun K hK => ?_) AllReadyH.nil
          case hi24x1 => (simp only [List.getElem?_toArray, List.getElem?_cons_succ, List.getElem?_cons_zero]; exact rfl)
          go_simp
          refine ((HKE _).out).mono ?_
          rintro e w5 ⟨rfl, hb5⟩
          refine hK.out _ _ ?_ (fun hHeld => ?_)
          · (repeat (first | exact Ext.refl _ | assumption | refine Ext.setCell ?_ (by first | (simp; done) | (simp; omega)) _ | refine Ext.drewN ?_ _ | refine Ext.alloc ?_ _ | refine Ext.drew ?_ | refine Ext.trans ?_ (by assumption)))
          clear hK K
          refine wpAnyH_ready (rs := [9]) (by kernel_rfl) (by simp) ?_
          refine AllReadyH.cons (o := ?o25x9) ?hi25x9 (fun K hK => ?_) AllReadyH.nil
          case hi25x9 => (simp only [List.getElem?_toArray, List.getElem?_cons_succ, List.getElem?_cons_zero]; exact rfl)
          go_simp
          refine (numberError_any _ 3 3 [g0, g1, g2] _ rfl ?_ (by omega)).mono ?_
          · first | exact Rd.new (by first | rfl | simp) rfl | exact (Rd.new (by first | rfl | simp) rfl).ext hb5 | exact ((Rd.new (by first | rfl | simp) rfl).ext ((Ext.refl _).drew)).ext hb5
          rintro e w' ⟨rfl, rfl⟩
          refine hK.out _ _ ?_ (fun hHeld => ?_)
          · (repeat (first | exact Ext.refl _ | assumption | refine Ext.setCell ?_ (by first | (simp; done) | (simp; omega)) _ | refine Ext.drewN ?_ _ | refine Ext.alloc ?_ _ | refine Ext.drew ?_ | refine Ext.trans ?_ (by assumption)))
          clear hK K
          refine wpAnyH_take (i := 13) (oi := ?o26x13) (v := ?v26x13) ?hi26x13 (by kernel_rfl) ?hf26x13 ?hr26x13 (fun _ _ _ h => h) ?hy26x13 (by assumption) ?rest26x13
          case hi26x13 => (simp only [List.getElem?_toArray, List.getElem?_cons_succ, List.getElem?_cons_zero]; exact rfl)
          case hf26x13 => kernel_rfl
          case hr26x13 => kernel_rfl
          case hy26x13 => (refine Or.inl ⟨by rfl, ?_⟩; intro w hSw; (try dsimp only at hSw); go_simp; try with_reducible rfl)
          simp only [put_mk, List.set_cons_succ, List.set_cons_zero]
          refine wpAnyH_take (i := 14) (oi := ?o27x14) (v := undef) ?hi27x14 (by kernel_rfl) ?hf27x14 ?hr27x14 (fun _ _ _ h => h) ?hy27x14 (by assumption) ?rest27x14
          case hi27x14 => (simp only [List.getElem?_toArray, List.getElem?_cons_succ, List.getElem?_cons_zero]; exact rfl)
          case hf27x14 => kernel_rfl
          case hr27x14 => kernel_rfl
          case hy27x14 => exact Or.inr ⟨by rfl, rfl⟩
          simp only [put_mk, List.set_cons_succ, List.set_cons_zero]
          refine wpAnyH_take (i := 15) (oi := ?o28x15) (v := undef) ?hi28x15 (by kernel_rfl) ?hf28x15 ?hr28x15 (fun _ _ _ h => h) ?hy28x15 (by assumption) ?rest28x15
          case hi28x15 => (simp only [List.getElem?_toArray, List.getElem?_cons_succ, List.getElem?_cons_zero]; exact rfl)
          case hf28x15 => kernel_rfl
          case hr28x15 => kernel_rfl
          case hy28x15 => exact Or.inr ⟨by rfl, rfl⟩
          simp only [put_mk, List.set_cons_succ, List.set_cons_zero]
          refine wpAnyH_take (i := 16) (oi := ?o29x16) (v := undef) ?hi29x16 (by kernel_rfl) ?hf29x16 ?hr29x16 (fun _ _ _ h => h) ?hy29x16 (by assumption) ?rest29x16
          case hi29x16 => (simp only [List.getElem?_toArray, List.getElem?_cons_succ, List.getElem?_cons_zero]; exact rfl)
          case hf29x16 => kernel_rfl
          case hr29x16 => kernel_rfl
          case hy29x16 => exact Or.inr ⟨by rfl, rfl⟩
          simp only [put_mk, List.set_cons_succ, List.set_cons_zero]
          refine wpAnyH_take (i := 17) (oi := ?o30x17) (v := ?v30x17) ?hi30x17 (by kernel_rfl) ?hf30x17 ?hr30x17 (fun _ _ _ h => h) ?hy30x17 (by assumption) ?rest30x17
          case hi30x17 => (simp only [List.getElem?_toArray, List.getElem?_cons_succ, List.getElem?_cons_zero]; exact rfl)
          case hf30x17 => kernel_rfl
          case hr30x17 => kernel_rfl
          case hy30x17 => (refine Or.inl ⟨by rfl, ?_⟩; intro w hSw; (try dsimp only at hSw); go_simp; try with_reducible rfl)
          simp only [put_mk, List.set_cons_succ, List.set_cons_zero]
          refine wpAnyH_ready (rs := [18]) (by kernel_rfl) (by simp) ?_
          refine AllReadyH.cons (o := ?o31x18) ?hi31x18 (fun K hK => ?_) AllReadyH.nil
          case hi31x18 => (simp only [List.getElem?_toArray, List.getElem?_cons_succ, List.getElem?_cons_zero]; exact rfl)
          go_simp
          refine (negs_yes g1 g2 _ HL.out).mono ?_
          rintro e w' ⟨rfl, rfl⟩
          refine hK.out _ _ ?_ (fun hHeld => ?_)
          · (repeat (first | exact Ext.refl _ | assumption | refine Ext.setCell ?_ (by first | (simp; done) | (simp; omega)) _ | refine Ext.drewN ?_ _ | refine Ext.alloc ?_ _ | refine Ext.drew ?_ | refine Ext.trans ?_ (by assumption)))
          clear hK K
          refine wpAnyH_ready (rs := [19]) (by kernel_rfl) (by simp) ?_
          refine AllReadyH.cons (o := ?o32x19) ?hi32x19 (fun K hK => ?_) AllReadyH.nil
          case hi32x19 => (simp only [List.getElem?_toArray, List.getElem?_cons_succ, List.getElem?_cons_zero]; exact rfl)
          go_simp
          refine hK.out _ _ ?_ (fun hHeld => ?_)
          · (repeat (first | exact Ext.refl _ | assumption | refine Ext.setCell ?_ (by first | (simp; done) | (simp; omega)) _ | refine Ext.drewN ?_ _ | refine Ext.alloc ?_ _ | refine Ext.drew ?_ | refine Ext.trans ?_ (by assumption)))
          clear hK K
          refine wpAnyH_ready (rs := [20]) (by kernel_rfl) (by simp) ?_
          refine AllReadyH.cons (o := ?o33x20) ?hi33x20 (fun K hK => ?_) AllReadyH.nil
          case hi33x20 => (simp only [List.getElem?_toArray, List.getElem?_cons_succ, List.getElem?_cons_zero]; exact rfl)
          go_simp
          refine (first_any _ 3 3 [kindE s a0 a1 a2 a3 a4 a5 a6 a7 a8 a9 p q, numE [g0, g1, g2], negsE g1 g2] _ rfl (Rd.new (by first | rfl | simp) rfl) (by omega)).mono ?_
          rw [suit_first]
          rintro e w' ⟨rfl, rfl⟩
          refine hK.out _ _ ?_ (fun hHeld => ?_)
          · (repeat (first | exact Ext.refl _ | assumption | refine Ext.setCell ?_ (by first | (simp; done) | (simp; omega)) _ | refine Ext.drewN ?_ _ | refine Ext.alloc ?_ _ | refine Ext.drew ?_ | refine Ext.trans ?_ (by assumption)))
          clear hK K
          refine wpAnyH_take (i := 21) (oi := ?o34x21) (v := ?v34x21) ?hi34x21 (by kernel_rfl) ?hf34x21 ?hr34x21 (fun _ _ _ h => h) ?hy34x21 (by assumption) ?rest34x21
          case hi34x21 => (simp only [List.getElem?_toArray, List.getElem?_cons_succ, List.getElem?_cons_zero]; exact rfl)
          case hf34x21 => kernel_rfl
          case hr34x21 => kernel_rfl
          case hy34x21 => (refine Or.inl ⟨by rfl, ?_⟩; intro w hSw; (try dsimp only at hSw); go_simp; try with_reducible rfl)
          simp only [put_mk, List.set_cons_succ, List.set_cons_zero]
          refine wpAnyH_done (by kernel_rfl) ?_ _
          refine NoPanic.normal ?_
          go_wp2_with fail
          go_meet
          case rel => exact ⟨rfl, (by repeat (first | exact Ext.refl _ | assumption | refine Ext.setCell ?_ (by first | (simp; done) | (simp; omega)) _ | refine Ext.drewN ?_ _ | refine Ext.alloc ?_ _ | refine Ext.drew ?_ | refine Ext.trans ?_ (by assumption)))⟩
      case rest =>
        obtain ⟨rfl, hx4⟩ := hcut
        have t1 : (suitE s a0 a1 a2 a3 a4 a5 a6 a7 a8 a9 p q g0 g1 g2 != 0) = true := by simpa using HE.out
        go_wp2
        go_ret
        exact ⟨ret_b (by simp), (by repeat (first | exact Ext.refl _ | assumption | refine Ext.setCell ?_ (by first | (simp; done) | (simp; omega)) _ | refine Ext.drewN ?_ _ | refine Ext.alloc ?_ _ | refine Ext.drew ?_ | refine Ext.trans ?_ (by assumption)))⟩

set_option maxRecDepth 100000 in
set_option maxHeartbeats 6400000 in
theorem suits_bad (s : ByteArray) (a0 a1 a2 a3 a4 a5 a6 a7 a8 a9 g0 g1 g2 v low high soft : Nat) (p q : Int) (w : World) (hs : s.size ≤ 9223372036854775807) (hL : (FloatKind.f32.format.order g1 0 == some .lt) = false) (hE : suitE s a0 a1 a2 a3 a4 a5 a6 a7 a8 a9 p q g0 g1 g2 ≠ 0) :
    Calls Tryd.prog 4 #[.agg #[.string s, .float .f32 a0, .float .f32 a1, .float .f32 a2, .float .f32 a3, .float .f32 a4, .float .f32 a5, .float .f32 a6, .float .f32 a7, .float .f32 a8, .float .f32 a9, .int .i64 p, .int .i64 q], .agg #[.float .f32 g0, .float .f32 g1, .float .f32 g2], .float .f32 v, .float .f32 low, .float .f32 high, .float .f32 soft] w fun e w' => e = .returned (.bool true) ∧ Ext w w' := by
  have HKE := fun (w : World) => hidA (kindError_any s a0 a1 a2 a3 a4 a5 a6 a7 a8 a9 p q w hs)
  have HL := hidA hL
  have HE := hidA hE
  have z0 : (FloatKind.f32.format.order 0 0 == some .eq) = true := by decide +kernel
  clear hE
  go_enter Tryd.func4, Tryd.ntmps4
  go_upto_region 1 with fail
  go_cut [13, 14] from 18 to 25 (fun s13 s14 wx => ∃ (r : Nat), s13 = .float .f32 r ∧ s14 = .int .i64 (slackE v low high soft) ∧ (slackE v low high soft = 0 → r = slackF v low high soft) ∧ (slackE v low high soft ≠ 0 → r = 0) ∧ Ext ((w.alloc (.cells #[.string s, .float .f32 a0, .float .f32 a1, .float .f32 a2, .float .f32 a3, .float .f32 a4, .float .f32 a5, .float .f32 a6, .float .f32 a7, .float .f32 a8, .float .f32 a9, .int .i64 p, .int .i64 q] 28)).alloc (.cells #[.float .f32 g0, .float .f32 g1, .float .f32 g2] 32)) wx)
  case first =>
    by_cases hz : slackE v low high soft = 0
    · go_wp2_with fail
      refine (Slack_ok v low high soft _ hz).mono ?_
      rintro e w1 ⟨rfl, hb1⟩
      go_wp2_with fail
      go_meet
      case rel => exact ⟨_, rfl, by rw [hz], fun _ => rfl, fun h => absurd hz h, (by repeat (first | exact Ext.refl _ | assumption | refine Ext.setCell ?_ (by first | (simp; done) | (simp; omega)) _ | refine Ext.drewN ?_ _ | refine Ext.alloc ?_ _ | refine Ext.drew ?_ | refine Ext.trans ?_ (by assumption)))⟩
    · go_wp2_with fail
      refine (Slack_bad v low high soft _ hz).mono ?_
      rintro e w1 ⟨rfl, hb1⟩
      go_wp2_with fail
      go_meet
      case rel => exact ⟨_, rfl, rfl, fun h => absurd h hz, fun _ => rfl, (by repeat (first | exact Ext.refl _ | assumption | refine Ext.setCell ?_ (by first | (simp; done) | (simp; omega)) _ | refine Ext.drewN ?_ _ | refine Ext.alloc ?_ _ | refine Ext.drew ?_ | refine Ext.trans ?_ (by assumption)))⟩
  case rest =>
    obtain ⟨r, rfl, rfl, hr1, hr2, hb1⟩ := hcut
    obtain ⟨w1, hw1⟩ : ∃ w1, w1 = wc := ⟨_, rfl⟩
    subst hw1
    have Hr1 := hidA hr1
    have Hr2 := hidA hr2
    have hK : Bk w1 w.heap.size 28 #[.string s, .float .f32 a0, .float .f32 a1, .float .f32 a2, .float .f32 a3, .float .f32 a4, .float .f32 a5, .float .f32 a6, .float .f32 a7, .float .f32 a8, .float .f32 a9, .int .i64 p, .int .i64 q] := ((Bk.new' rfl).alloc _).ext hb1
    have hG : Bk w1 (w.heap.size + 1) 32 #[.float .f32 g0, .float .f32 g1, .float .f32 g2] := (Bk.new' (by simp)).ext hb1
    have hx1 : Ext w w1 := (((Ext.refl w).alloc _).alloc _).trans hb1
    clear hr1 hr2 hb1
    go_upto_region 3 with (first
      | (go_at_call 13; refine (numberError_any _ 4 4 [v, low, high, soft] _ rfl (Rd.new (by first | rfl | simp) rfl) (by omega)).mono ?_; rintro e w' ⟨rfl, rfl⟩)
      | (go_at_call_of 14 (Value.int IntKind.i64 8); refine (when_lt high low 8 _).mono ?_; rintro e w' ⟨rfl, rfl⟩)
      | (go_at_call 14; refine (when_lt soft 0 3 _).mono ?_; rintro e w' ⟨rfl, rfl⟩)
      | (go_at_call 12; refine (first_any _ 3 3 [numE [v, low, high, soft], ifE (lt high low) 8, ifE (lt soft 0) 3] _ rfl (Rd.new (by first | rfl | simp) rfl) (by omega)).mono ?_; rw [slack_first]; rintro e w' ⟨rfl, rfl⟩))
    go_cut [73] from 41 to 72 (fun s73 wx => s73 = .bool false ∧ Ext w1 wx)
    case first =>
      by_cases hz : slackE v low high soft = 0
      · obtain rfl := Hr1.out hz
        obtain ⟨c0, c1, c2, c3⟩ := slackE_zero hz
        have t1 : (slackE v low high soft != 0) = false := by simpa using hz
        have t2 : (slackE v low high soft == 0) = true := by simpa using hz
        clear hz Hr1 Hr2
        go_wp2_with (first
          | (go_at_call 6; refine (grows_any _).mono ?_; rintro e w2 ⟨rfl, hb2⟩)
          | (go_at_call 16; refine (slackOf_any v low high soft _ c0 c1 c2 c3).mono ?_; rintro e w' ⟨rfl, hw'⟩; rw [hw']; clear hw' w')
          | (go_at_call 15; refine (bit_same _ _).mono ?_; rintro e w' ⟨rfl, hw'⟩; rw [hw']; clear hw' w'))
        go_meet
        case rel => exact ⟨rfl, (by repeat (first | exact Ext.refl _ | assumption | refine Ext.setCell ?_ (by first | (simp; done) | (simp; omega)) _ | refine Ext.drewN ?_ _ | refine Ext.alloc ?_ _ | refine Ext.drew ?_ | refine Ext.trans ?_ (by assumption)))⟩
      · obtain rfl := Hr2.out hz
        have t1 : (slackE v low high soft != 0) = true := by simpa using hz
        have t2 : (slackE v low high soft == 0) = false := by simpa using hz
        clear hz Hr1 Hr2
        go_wp2_with (first
          | (go_at_call 6; refine (grows_any _).mono ?_; rintro e w2 ⟨rfl, hb2⟩))
        go_meet
        case rel => exact ⟨by simp, (by repeat (first | exact Ext.refl _ | assumption | refine Ext.setCell ?_ (by first | (simp; done) | (simp; omega)) _ | refine Ext.drewN ?_ _ | refine Ext.alloc ?_ _ | refine Ext.drew ?_ | refine Ext.trans ?_ (by assumption)))⟩
    case rest =>
      obtain ⟨rfl, hx2⟩ := hcut
      obtain ⟨w2, hw2⟩ : ∃ w2, w2 = wc := ⟨_, rfl⟩
      subst hw2
      have hK2 := hK.ext hx2
      have hG2 := hG.ext hx2
      have d0 := hK2.cell 0
      have d1 := hK2.cell 1
      have d2 := hK2.cell 2
      have d3 := hK2.cell 3
      have d4 := hK2.cell 4
      have d5 := hK2.cell 5
      have d6 := hK2.cell 6
      have d7 := hK2.cell 7
      have d8 := hK2.cell 8
      have d9 := hK2.cell 9
      have d10 := hK2.cell 10
      have d11 := hK2.cell 11
      have d12 := hK2.cell 12
      have e0 := hG2.cell 0
      have e1 := hG2.cell 1
      have e2 := hG2.cell 2
      clear Hr1 Hr2
      go_wp2_with fail
      refine (Suit_bad s a0 a1 a2 a3 a4 a5 a6 a7 a8 a9 g0 g1 g2 p q _ hs HE.out).mono ?_
      rintro e w3 ⟨rfl, hb3⟩
      clear d0 d1 d2 d3 d4 d5 d6 d7 d8 d9 d10 d11 d12 e0 e1 e2
      have hK3 := hK2.ext hb3
      have hG3 := hG2.ext hb3
      have hx3 := (hx1.trans hx2).trans hb3
      have s0 : ∀ w', Ext w3 w' → w'.cell? ⟨w.heap.size, 0, none⟩ = some (.string s) := fun w' h => (hK3.ext h).cell 0
      have s1 : ∀ w', Ext w3 w' → w'.cell? ⟨w.heap.size, 1, none⟩ = some (.float .f32 a0) := fun w' h => (hK3.ext h).cell 1
      have s2 : ∀ w', Ext w3 w' → w'.cell? ⟨w.heap.size, 2, none⟩ = some (.float .f32 a1) := fun w' h => (hK3.ext h).cell 2
      have s3 : ∀ w', Ext w3 w' → w'.cell? ⟨w.heap.size, 3, none⟩ = some (.float .f32 a2) := fun w' h => (hK3.ext h).cell 3
      have s4 : ∀ w', Ext w3 w' → w'.cell? ⟨w.heap.size, 4, none⟩ = some (.float .f32 a3) := fun w' h => (hK3.ext h).cell 4
      have s5 : ∀ w', Ext w3 w' → w'.cell? ⟨w.heap.size, 5, none⟩ = some (.float .f32 a4) := fun w' h => (hK3.ext h).cell 5
      have s6 : ∀ w', Ext w3 w' → w'.cell? ⟨w.heap.size, 6, none⟩ = some (.float .f32 a5) := fun w' h => (hK3.ext h).cell 6
      have s7 : ∀ w', Ext w3 w' → w'.cell? ⟨w.heap.size, 7, none⟩ = some (.float .f32 a6) := fun w' h => (hK3.ext h).cell 7
      have s8 : ∀ w', Ext w3 w' → w'.cell? ⟨w.heap.size, 8, none⟩ = some (.float .f32 a7) := fun w' h => (hK3.ext h).cell 8
      have s9 : ∀ w', Ext w3 w' → w'.cell? ⟨w.heap.size, 9, none⟩ = some (.float .f32 a8) := fun w' h => (hK3.ext h).cell 9
      have s10 : ∀ w', Ext w3 w' → w'.cell? ⟨w.heap.size, 10, none⟩ = some (.float .f32 a9) := fun w' h => (hK3.ext h).cell 10
      have s11 : ∀ w', Ext w3 w' → w'.cell? ⟨w.heap.size, 11, none⟩ = some (.int .i64 p) := fun w' h => (hK3.ext h).cell 11
      have s12 : ∀ w', Ext w3 w' → w'.cell? ⟨w.heap.size, 12, none⟩ = some (.int .i64 q) := fun w' h => (hK3.ext h).cell 12
      have u0 : ∀ w', Ext w3 w' → w'.cell? ⟨w.heap.size + 1, 0, none⟩ = some (.float .f32 g0) := fun w' h => (hG3.ext h).cell 0
      have u1 : ∀ w', Ext w3 w' → w'.cell? ⟨w.heap.size + 1, 1, none⟩ = some (.float .f32 g1) := fun w' h => (hG3.ext h).cell 1
      have u2 : ∀ w', Ext w3 w' → w'.cell? ⟨w.heap.size + 1, 2, none⟩ = some (.float .f32 g2) := fun w' h => (hG3.ext h).cell 2
      have hl' := HL.out
      clear hK hG hK2 hG2 hL
      go_upto_region 6 with fail
      go_cut [15] from 80 to 100 (fun s15 wx => s15 = .int .i64 (suitE s a0 a1 a2 a3 a4 a5 a6 a7 a8 a9 p q g0 g1 g2) ∧ Ext w3 wx)
      case first =>
        refine wp_region_noPanic ?_
        refine wp_region_held_drew (S := fun w' => Ext w3 w') (by kernel_rfl) ?_ (fun hHeld => ?_)
        · (repeat (first | exact Ext.refl _ | assumption | refine Ext.setCell ?_ (by first | (simp; done) | (simp; omega)) _ | refine Ext.drewN ?_ _ | refine Ext.alloc ?_ _ | refine Ext.drew ?_ | refine Ext.trans ?_ (by assumption)))
        refine wpAnyH_take (i := 0) (oi := ?o36x0) (v := ?v36x0) ?hi36x0 (by kernel_rfl) ?hf36x0 ?hr36x0 (fun _ _ _ h => h) ?hy36x0 (by assumption) ?rest36x0
        case hi36x0 => (simp only [List.getElem?_toArray, List.getElem?_cons_zero]; exact rfl)
        case hf36x0 => kernel_rfl
        case hr36x0 => kernel_rfl
        case hy36x0 => (refine Or.inl ⟨by rfl, ?_⟩; intro w hSw; (try dsimp only at hSw); go_simp; try with_reducible rfl)
        simp only [put_mk, List.set_cons_succ, List.set_cons_zero]
        refine wpAnyH_take (i := 2) (oi := ?o37x2) (v := ?v37x2) ?hi37x2 (by kernel_rfl) ?hf37x2 ?hr37x2 (fun _ _ _ h => h) ?hy37x2 (by assumption) ?rest37x2
        case hi37x2 => (simp only [List.getElem?_toArray, List.getElem?_cons_succ, List.getElem?_cons_zero]; exact rfl)
        case hf37x2 => kernel_rfl
        case hr37x2 => kernel_rfl
        case hy37x2 => (refine Or.inl ⟨by rfl, ?_⟩; intro w hSw; (try dsimp only at hSw); go_simp; try with_reducible rfl)
        simp only [put_mk, List.set_cons_succ, List.set_cons_zero]
        refine wpAnyH_take (i := 3) (oi := ?o38x3) (v := ?v38x3) ?hi38x3 (by kernel_rfl) ?hf38x3 ?hr38x3 (fun _ _ _ h => h) ?hy38x3 (by assumption) ?rest38x3
        case hi38x3 => (simp only [List.getElem?_toArray, List.getElem?_cons_succ, List.getElem?_cons_zero]; exact rfl)
        case hf38x3 => kernel_rfl
        case hr38x3 => kernel_rfl
        case hy38x3 => (refine Or.inl ⟨by rfl, ?_⟩; intro w hSw; (try dsimp only at hSw); go_simp; try with_reducible rfl)
        simp only [put_mk, List.set_cons_succ, List.set_cons_zero]
        refine wpAnyH_take (i := 4) (oi := ?o39x4) (v := ?v39x4) ?hi39x4 (by kernel_rfl) ?hf39x4 ?hr39x4 (fun _ _ _ h => h) ?hy39x4 (by assumption) ?rest39x4
        case hi39x4 => (simp only [List.getElem?_toArray, List.getElem?_cons_succ, List.getElem?_cons_zero]; exact rfl)
        case hf39x4 => kernel_rfl
        case hr39x4 => kernel_rfl
        case hy39x4 => (refine Or.inl ⟨by rfl, ?_⟩; intro w hSw; (try dsimp only at hSw); go_simp; try with_reducible rfl)
        simp only [put_mk, List.set_cons_succ, List.set_cons_zero]
        refine wpAnyH_take (i := 5) (oi := ?o40x5) (v := ?v40x5) ?hi40x5 (by kernel_rfl) ?hf40x5 ?hr40x5 (fun _ _ _ h => h) ?hy40x5 (by assumption) ?rest40x5
        case hi40x5 => (simp only [List.getElem?_toArray, List.getElem?_cons_succ, List.getElem?_cons_zero]; exact rfl)
        case hf40x5 => kernel_rfl
        case hr40x5 => kernel_rfl
        case hy40x5 => (refine Or.inl ⟨by rfl, ?_⟩; intro w hSw; (try dsimp only at hSw); go_simp; try with_reducible rfl)
        simp only [put_mk, List.set_cons_succ, List.set_cons_zero]
        refine wpAnyH_take (i := 6) (oi := ?o41x6) (v := ?v41x6) ?hi41x6 (by kernel_rfl) ?hf41x6 ?hr41x6 (fun _ _ _ h => h) ?hy41x6 (by assumption) ?rest41x6
        case hi41x6 => (simp only [List.getElem?_toArray, List.getElem?_cons_succ, List.getElem?_cons_zero]; exact rfl)
        case hf41x6 => kernel_rfl
        case hr41x6 => kernel_rfl
        case hy41x6 => (refine Or.inl ⟨by rfl, ?_⟩; intro w hSw; (try dsimp only at hSw); go_simp; try with_reducible rfl)
        simp only [put_mk, List.set_cons_succ, List.set_cons_zero]
        refine wpAnyH_take (i := 7) (oi := ?o42x7) (v := ?v42x7) ?hi42x7 (by kernel_rfl) ?hf42x7 ?hr42x7 (fun _ _ _ h => h) ?hy42x7 (by assumption) ?rest42x7
        case hi42x7 => (simp only [List.getElem?_toArray, List.getElem?_cons_succ, List.getElem?_cons_zero]; exact rfl)
        case hf42x7 => kernel_rfl
        case hr42x7 => kernel_rfl
        case hy42x7 => (refine Or.inl ⟨by rfl, ?_⟩; intro w hSw; (try dsimp only at hSw); go_simp; try with_reducible rfl)
        simp only [put_mk, List.set_cons_succ, List.set_cons_zero]
        refine wpAnyH_take (i := 10) (oi := ?o43x10) (v := ?v43x10) ?hi43x10 (by kernel_rfl) ?hf43x10 ?hr43x10 (fun _ _ _ h => h) ?hy43x10 (by assumption) ?rest43x10
        case hi43x10 => (simp only [List.getElem?_toArray, List.getElem?_cons_succ, List.getElem?_cons_zero]; exact rfl)
        case hf43x10 => kernel_rfl
        case hr43x10 => kernel_rfl
        case hy43x10 => (refine Or.inl ⟨by rfl, ?_⟩; intro w hSw; (try dsimp only at hSw); go_simp; try with_reducible rfl)
        simp only [put_mk, List.set_cons_succ, List.set_cons_zero]
        refine wpAnyH_take (i := 11) (oi := ?o44x11) (v := ?v44x11) ?hi44x11 (by kernel_rfl) ?hf44x11 ?hr44x11 (fun _ _ _ h => h) ?hy44x11 (by assumption) ?rest44x11
        case hi44x11 => (simp only [List.getElem?_toArray, List.getElem?_cons_succ, List.getElem?_cons_zero]; exact rfl)
        case hf44x11 => kernel_rfl
        case hr44x11 => kernel_rfl
        case hy44x11 => (refine Or.inl ⟨by rfl, ?_⟩; intro w hSw; (try dsimp only at hSw); go_simp; try with_reducible rfl)
        simp only [put_mk, List.set_cons_succ, List.set_cons_zero]
        refine wpAnyH_take (i := 12) (oi := ?o45x12) (v := ?v45x12) ?hi45x12 (by kernel_rfl) ?hf45x12 ?hr45x12 (fun _ _ _ h => h) ?hy45x12 (by assumption) ?rest45x12
        case hi45x12 => (simp only [List.getElem?_toArray, List.getElem?_cons_succ, List.getElem?_cons_zero]; exact rfl)
        case hf45x12 => kernel_rfl
        case hr45x12 => kernel_rfl
        case hy45x12 => (refine Or.inl ⟨by rfl, ?_⟩; intro w hSw; (try dsimp only at hSw); go_simp; try with_reducible rfl)
        simp only [put_mk, List.set_cons_succ, List.set_cons_zero]
        refine wpAnyH_ready (rs := [1, 8]) (by kernel_rfl) (by simp) ?_
        refine (AllReadyH.cons (o := ?o46x1) ?hi46x1 (fun K hK => ?_) (AllReadyH.cons (o := ?o46x8) ?hi46x8 (fun K hK => ?_) AllReadyH.nil))
        case hi46x1 => (simp only [List.getElem?_toArray, List.getElem?_cons_succ, List.getElem?_cons_zero]; exact rfl)
        case hi46x8 => (simp only [List.getElem?_toArray, List.getElem?_cons_succ, List.getElem?_cons_zero]; exact rfl)
        · go_simp
          refine ((HKE _).out).mono ?_
          rintro e w5 ⟨rfl, hb5⟩
          refine hK.out _ _ ?_ (fun hHeld => ?_)
          · (repeat (first | exact Ext.refl _ | assumption | refine Ext.setCell ?_ (by first | (simp; done) | (simp; omega)) _ | refine Ext.drewN ?_ _ | refine Ext.alloc ?_ _ | refine Ext.drew ?_ | refine Ext.trans ?_ (by assumption)))
          clear hK K
          refine wpAnyH_ready (rs := [8]) (by kernel_rfl) (by simp) ?_
          refine AllReadyH.cons (o := ?o47x8) ?hi47x8 (fun K hK => ?_) AllReadyH.nil
          case hi47x8 => (simp only [List.getElem?_toArray, List.getElem?_cons_succ, List.getElem?_cons_zero]; exact rfl)
          go_simp
          refine hK.out _ _ ?_ (fun hHeld => ?_)
          · (repeat (first | exact Ext.refl _ | assumption | refine Ext.setCell ?_ (by first | (simp; done) | (simp; omega)) _ | refine Ext.drewN ?_ _ | refine Ext.alloc ?_ _ | refine Ext.drew ?_ | refine Ext.trans ?_ (by assumption)))
          clear hK K
          refine wpAnyH_ready (rs := [9]) (by kernel_rfl) (by simp) ?_
          refine AllReadyH.cons (o := ?o48x9) ?hi48x9 (fun K hK => ?_) AllReadyH.nil
          case hi48x9 => (simp only [List.getElem?_toArray, List.getElem?_cons_succ, List.getElem?_cons_zero]; exact rfl)
          go_simp
          refine (numberError_any _ 3 3 [g0, g1, g2] _ rfl ?_ (by omega)).mono ?_
          · first | exact Rd.new (by first | rfl | simp) rfl | exact (Rd.new (by first | rfl | simp) rfl).ext hb5 | exact ((Rd.new (by first | rfl | simp) rfl).ext ((Ext.refl _).drew)).ext hb5
          rintro e w' ⟨rfl, rfl⟩
          refine hK.out _ _ ?_ (fun hHeld => ?_)
          · (repeat (first | exact Ext.refl _ | assumption | refine Ext.setCell ?_ (by first | (simp; done) | (simp; omega)) _ | refine Ext.drewN ?_ _ | refine Ext.alloc ?_ _ | refine Ext.drew ?_ | refine Ext.trans ?_ (by assumption)))
          clear hK K
          refine wpAnyH_take (i := 13) (oi := ?o49x13) (v := ?v49x13) ?hi49x13 (by kernel_rfl) ?hf49x13 ?hr49x13 (fun _ _ _ h => h) ?hy49x13 (by assumption) ?rest49x13
          case hi49x13 => (simp only [List.getElem?_toArray, List.getElem?_cons_succ, List.getElem?_cons_zero]; exact rfl)
          case hf49x13 => kernel_rfl
          case hr49x13 => kernel_rfl
          case hy49x13 => (refine Or.inl ⟨by rfl, ?_⟩; intro w hSw; (try dsimp only at hSw); go_simp; try with_reducible rfl)
          simp only [put_mk, List.set_cons_succ, List.set_cons_zero]
          refine wpAnyH_take (i := 14) (oi := ?o50x14) (v := ?v50x14) ?hi50x14 (by kernel_rfl) ?hf50x14 ?hr50x14 (fun _ _ _ h => h) ?hy50x14 (by assumption) ?rest50x14
          case hi50x14 => (simp only [List.getElem?_toArray, List.getElem?_cons_succ, List.getElem?_cons_zero]; exact rfl)
          case hf50x14 => kernel_rfl
          case hr50x14 => kernel_rfl
          case hy50x14 => (refine Or.inl ⟨by rfl, ?_⟩; intro w hSw; (try dsimp only at hSw); go_simp; try with_reducible rfl)
          simp only [put_mk, List.set_cons_succ, List.set_cons_zero]
          refine wpAnyH_take (i := 15) (oi := ?o51x15) (v := ?v51x15) ?hi51x15 (by kernel_rfl) ?hf51x15 ?hr51x15 (fun _ _ _ h => h) ?hy51x15 (by assumption) ?rest51x15
          case hi51x15 => (simp only [List.getElem?_toArray, List.getElem?_cons_succ, List.getElem?_cons_zero]; exact rfl)
          case hf51x15 => kernel_rfl
          case hr51x15 => kernel_rfl
          case hy51x15 => (refine Or.inl ⟨by rfl, ?_⟩; intro w hSw; (try dsimp only at hSw); go_simp; try with_reducible rfl)
          simp only [put_mk, List.set_cons_succ, List.set_cons_zero]
          refine wpAnyH_take (i := 16) (oi := ?o52x16) (v := ?v52x16) ?hi52x16 (by kernel_rfl) ?hf52x16 ?hr52x16 (fun _ _ _ h => h) ?hy52x16 (by assumption) ?rest52x16
          case hi52x16 => (simp only [List.getElem?_toArray, List.getElem?_cons_succ, List.getElem?_cons_zero]; exact rfl)
          case hf52x16 => kernel_rfl
          case hr52x16 => kernel_rfl
          case hy52x16 => (refine Or.inl ⟨by rfl, ?_⟩; intro w hSw; (try dsimp only at hSw); go_simp; try with_reducible rfl)
          simp only [put_mk, List.set_cons_succ, List.set_cons_zero]
          refine wpAnyH_take (i := 17) (oi := ?o53x17) (v := ?v53x17) ?hi53x17 (by kernel_rfl) ?hf53x17 ?hr53x17 (fun _ _ _ h => h) ?hy53x17 (by assumption) ?rest53x17
          case hi53x17 => (simp only [List.getElem?_toArray, List.getElem?_cons_succ, List.getElem?_cons_zero]; exact rfl)
          case hf53x17 => kernel_rfl
          case hr53x17 => kernel_rfl
          case hy53x17 => (refine Or.inl ⟨by rfl, ?_⟩; intro w hSw; (try dsimp only at hSw); go_simp; try with_reducible rfl)
          simp only [put_mk, List.set_cons_succ, List.set_cons_zero]
          refine wpAnyH_ready (rs := [18]) (by kernel_rfl) (by simp) ?_
          refine AllReadyH.cons (o := ?o54x18) ?hi54x18 (fun K hK => ?_) AllReadyH.nil
          case hi54x18 => (simp only [List.getElem?_toArray, List.getElem?_cons_succ, List.getElem?_cons_zero]; exact rfl)
          go_simp
          refine (negs_no g1 g2 _ HL.out).mono ?_
          rintro e w' ⟨rfl, rfl⟩
          refine hK.out _ _ ?_ (fun hHeld => ?_)
          · (repeat (first | exact Ext.refl _ | assumption | refine Ext.setCell ?_ (by first | (simp; done) | (simp; omega)) _ | refine Ext.drewN ?_ _ | refine Ext.alloc ?_ _ | refine Ext.drew ?_ | refine Ext.trans ?_ (by assumption)))
          clear hK K
          refine wpAnyH_ready (rs := [19]) (by kernel_rfl) (by simp) ?_
          refine AllReadyH.cons (o := ?o55x19) ?hi55x19 (fun K hK => ?_) AllReadyH.nil
          case hi55x19 => (simp only [List.getElem?_toArray, List.getElem?_cons_succ, List.getElem?_cons_zero]; exact rfl)
          go_simp
          refine hK.out _ _ ?_ (fun hHeld => ?_)
          · (repeat (first | exact Ext.refl _ | assumption | refine Ext.setCell ?_ (by first | (simp; done) | (simp; omega)) _ | refine Ext.drewN ?_ _ | refine Ext.alloc ?_ _ | refine Ext.drew ?_ | refine Ext.trans ?_ (by assumption)))
          clear hK K
          refine wpAnyH_ready (rs := [20]) (by kernel_rfl) (by simp) ?_
          refine AllReadyH.cons (o := ?o56x20) ?hi56x20 (fun K hK => ?_) AllReadyH.nil
          case hi56x20 => (simp only [List.getElem?_toArray, List.getElem?_cons_succ, List.getElem?_cons_zero]; exact rfl)
          go_simp
          refine (first_any _ 3 3 [kindE s a0 a1 a2 a3 a4 a5 a6 a7 a8 a9 p q, numE [g0, g1, g2], negsE g1 g2] _ rfl (Rd.new (by first | rfl | simp) rfl) (by omega)).mono ?_
          rw [suit_first]
          rintro e w' ⟨rfl, rfl⟩
          refine hK.out _ _ ?_ (fun hHeld => ?_)
          · (repeat (first | exact Ext.refl _ | assumption | refine Ext.setCell ?_ (by first | (simp; done) | (simp; omega)) _ | refine Ext.drewN ?_ _ | refine Ext.alloc ?_ _ | refine Ext.drew ?_ | refine Ext.trans ?_ (by assumption)))
          clear hK K
          refine wpAnyH_take (i := 21) (oi := ?o57x21) (v := ?v57x21) ?hi57x21 (by kernel_rfl) ?hf57x21 ?hr57x21 (fun _ _ _ h => h) ?hy57x21 (by assumption) ?rest57x21
          case hi57x21 => (simp only [List.getElem?_toArray, List.getElem?_cons_succ, List.getElem?_cons_zero]; exact rfl)
          case hf57x21 => kernel_rfl
          case hr57x21 => kernel_rfl
          case hy57x21 => (refine Or.inl ⟨by rfl, ?_⟩; intro w hSw; (try dsimp only at hSw); go_simp; try with_reducible rfl)
          simp only [put_mk, List.set_cons_succ, List.set_cons_zero]
          refine wpAnyH_done (by kernel_rfl) ?_ _
          refine NoPanic.normal ?_
          go_wp2_with fail
          go_meet
          case rel => exact ⟨rfl, (by repeat (first | exact Ext.refl _ | assumption | refine Ext.setCell ?_ (by first | (simp; done) | (simp; omega)) _ | refine Ext.drewN ?_ _ | refine Ext.alloc ?_ _ | refine Ext.drew ?_ | refine Ext.trans ?_ (by assumption)))⟩
        · go_simp
          refine hK.out _ _ ?_ (fun hHeld => ?_)
          · (repeat (first | exact Ext.refl _ | assumption | refine Ext.setCell ?_ (by first | (simp; done) | (simp; omega)) _ | refine Ext.drewN ?_ _ | refine Ext.alloc ?_ _ | refine Ext.drew ?_ | refine Ext.trans ?_ (by assumption)))
          clear hK K
          refine wpAnyH_ready (rs := [1]) (by kernel_rfl) (by simp) ?_
          refine AllReadyH.cons (o := ?o58x1) ?hi58x1 (fun K hK => ?_) AllReadyH.nil
          case hi58x1 => (simp only [List.getElem?_toArray, List.getElem?_cons_succ, List.getElem?_cons_zero]; exact rfl)
          go_simp
          refine ((HKE _).out).mono ?_
          rintro e w5 ⟨rfl, hb5⟩
          refine hK.out _ _ ?_ (fun hHeld => ?_)
          · (repeat (first | exact Ext.refl _ | assumption | refine Ext.setCell ?_ (by first | (simp; done) | (simp; omega)) _ | refine Ext.drewN ?_ _ | refine Ext.alloc ?_ _ | refine Ext.drew ?_ | refine Ext.trans ?_ (by assumption)))
          clear hK K
          refine wpAnyH_ready (rs := [9]) (by kernel_rfl) (by simp) ?_
          refine AllReadyH.cons (o := ?o59x9) ?hi59x9 (fun K hK => ?_) AllReadyH.nil
          case hi59x9 => (simp only [List.getElem?_toArray, List.getElem?_cons_succ, List.getElem?_cons_zero]; exact rfl)
          go_simp
          refine (numberError_any _ 3 3 [g0, g1, g2] _ rfl ?_ (by omega)).mono ?_
          · first | exact Rd.new (by first | rfl | simp) rfl | exact (Rd.new (by first | rfl | simp) rfl).ext hb5 | exact ((Rd.new (by first | rfl | simp) rfl).ext ((Ext.refl _).drew)).ext hb5
          rintro e w' ⟨rfl, rfl⟩
          refine hK.out _ _ ?_ (fun hHeld => ?_)
          · (repeat (first | exact Ext.refl _ | assumption | refine Ext.setCell ?_ (by first | (simp; done) | (simp; omega)) _ | refine Ext.drewN ?_ _ | refine Ext.alloc ?_ _ | refine Ext.drew ?_ | refine Ext.trans ?_ (by assumption)))
          clear hK K
          refine wpAnyH_take (i := 13) (oi := ?o60x13) (v := ?v60x13) ?hi60x13 (by kernel_rfl) ?hf60x13 ?hr60x13 (fun _ _ _ h => h) ?hy60x13 (by assumption) ?rest60x13
          case hi60x13 => (simp only [List.getElem?_toArray, List.getElem?_cons_succ, List.getElem?_cons_zero]; exact rfl)
          case hf60x13 => kernel_rfl
          case hr60x13 => kernel_rfl
          case hy60x13 => (refine Or.inl ⟨by rfl, ?_⟩; intro w hSw; (try dsimp only at hSw); go_simp; try with_reducible rfl)
          simp only [put_mk, List.set_cons_succ, List.set_cons_zero]
          refine wpAnyH_take (i := 14) (oi := ?o61x14) (v := ?v61x14) ?hi61x14 (by kernel_rfl) ?hf61x14 ?hr61x14 (fun _ _ _ h => h) ?hy61x14 (by assumption) ?rest61x14
          case hi61x14 => (simp only [List.getElem?_toArray, List.getElem?_cons_succ, List.getElem?_cons_zero]; exact rfl)
          case hf61x14 => kernel_rfl
          case hr61x14 => kernel_rfl
          case hy61x14 => (refine Or.inl ⟨by rfl, ?_⟩; intro w hSw; (try dsimp only at hSw); go_simp; try with_reducible rfl)
          simp only [put_mk, List.set_cons_succ, List.set_cons_zero]
          refine wpAnyH_take (i := 15) (oi := ?o62x15) (v := ?v62x15) ?hi62x15 (by kernel_rfl) ?hf62x15 ?hr62x15 (fun _ _ _ h => h) ?hy62x15 (by assumption) ?rest62x15
          case hi62x15 => (simp only [List.getElem?_toArray, List.getElem?_cons_succ, List.getElem?_cons_zero]; exact rfl)
          case hf62x15 => kernel_rfl
          case hr62x15 => kernel_rfl
          case hy62x15 => (refine Or.inl ⟨by rfl, ?_⟩; intro w hSw; (try dsimp only at hSw); go_simp; try with_reducible rfl)
          simp only [put_mk, List.set_cons_succ, List.set_cons_zero]
          refine wpAnyH_take (i := 16) (oi := ?o63x16) (v := ?v63x16) ?hi63x16 (by kernel_rfl) ?hf63x16 ?hr63x16 (fun _ _ _ h => h) ?hy63x16 (by assumption) ?rest63x16
          case hi63x16 => (simp only [List.getElem?_toArray, List.getElem?_cons_succ, List.getElem?_cons_zero]; exact rfl)
          case hf63x16 => kernel_rfl
          case hr63x16 => kernel_rfl
          case hy63x16 => (refine Or.inl ⟨by rfl, ?_⟩; intro w hSw; (try dsimp only at hSw); go_simp; try with_reducible rfl)
          simp only [put_mk, List.set_cons_succ, List.set_cons_zero]
          refine wpAnyH_take (i := 17) (oi := ?o64x17) (v := ?v64x17) ?hi64x17 (by kernel_rfl) ?hf64x17 ?hr64x17 (fun _ _ _ h => h) ?hy64x17 (by assumption) ?rest64x17
          case hi64x17 => (simp only [List.getElem?_toArray, List.getElem?_cons_succ, List.getElem?_cons_zero]; exact rfl)
          case hf64x17 => kernel_rfl
          case hr64x17 => kernel_rfl
          case hy64x17 => (refine Or.inl ⟨by rfl, ?_⟩; intro w hSw; (try dsimp only at hSw); go_simp; try with_reducible rfl)
          simp only [put_mk, List.set_cons_succ, List.set_cons_zero]
          refine wpAnyH_ready (rs := [18]) (by kernel_rfl) (by simp) ?_
          refine AllReadyH.cons (o := ?o65x18) ?hi65x18 (fun K hK => ?_) AllReadyH.nil
          case hi65x18 => (simp only [List.getElem?_toArray, List.getElem?_cons_succ, List.getElem?_cons_zero]; exact rfl)
          go_simp
          refine (negs_no g1 g2 _ HL.out).mono ?_
          rintro e w' ⟨rfl, rfl⟩
          refine hK.out _ _ ?_ (fun hHeld => ?_)
          · (repeat (first | exact Ext.refl _ | assumption | refine Ext.setCell ?_ (by first | (simp; done) | (simp; omega)) _ | refine Ext.drewN ?_ _ | refine Ext.alloc ?_ _ | refine Ext.drew ?_ | refine Ext.trans ?_ (by assumption)))
          clear hK K
          refine wpAnyH_ready (rs := [19]) (by kernel_rfl) (by simp) ?_
          refine AllReadyH.cons (o := ?o66x19) ?hi66x19 (fun K hK => ?_) AllReadyH.nil
          case hi66x19 => (simp only [List.getElem?_toArray, List.getElem?_cons_succ, List.getElem?_cons_zero]; exact rfl)
          go_simp
          refine hK.out _ _ ?_ (fun hHeld => ?_)
          · (repeat (first | exact Ext.refl _ | assumption | refine Ext.setCell ?_ (by first | (simp; done) | (simp; omega)) _ | refine Ext.drewN ?_ _ | refine Ext.alloc ?_ _ | refine Ext.drew ?_ | refine Ext.trans ?_ (by assumption)))
          clear hK K
          refine wpAnyH_ready (rs := [20]) (by kernel_rfl) (by simp) ?_
          refine AllReadyH.cons (o := ?o67x20) ?hi67x20 (fun K hK => ?_) AllReadyH.nil
          case hi67x20 => (simp only [List.getElem?_toArray, List.getElem?_cons_succ, List.getElem?_cons_zero]; exact rfl)
          go_simp
          refine (first_any _ 3 3 [kindE s a0 a1 a2 a3 a4 a5 a6 a7 a8 a9 p q, numE [g0, g1, g2], negsE g1 g2] _ rfl (Rd.new (by first | rfl | simp) rfl) (by omega)).mono ?_
          rw [suit_first]
          rintro e w' ⟨rfl, rfl⟩
          refine hK.out _ _ ?_ (fun hHeld => ?_)
          · (repeat (first | exact Ext.refl _ | assumption | refine Ext.setCell ?_ (by first | (simp; done) | (simp; omega)) _ | refine Ext.drewN ?_ _ | refine Ext.alloc ?_ _ | refine Ext.drew ?_ | refine Ext.trans ?_ (by assumption)))
          clear hK K
          refine wpAnyH_take (i := 21) (oi := ?o68x21) (v := ?v68x21) ?hi68x21 (by kernel_rfl) ?hf68x21 ?hr68x21 (fun _ _ _ h => h) ?hy68x21 (by assumption) ?rest68x21
          case hi68x21 => (simp only [List.getElem?_toArray, List.getElem?_cons_succ, List.getElem?_cons_zero]; exact rfl)
          case hf68x21 => kernel_rfl
          case hr68x21 => kernel_rfl
          case hy68x21 => (refine Or.inl ⟨by rfl, ?_⟩; intro w hSw; (try dsimp only at hSw); go_simp; try with_reducible rfl)
          simp only [put_mk, List.set_cons_succ, List.set_cons_zero]
          refine wpAnyH_done (by kernel_rfl) ?_ _
          refine NoPanic.normal ?_
          go_wp2_with fail
          go_meet
          case rel => exact ⟨rfl, (by repeat (first | exact Ext.refl _ | assumption | refine Ext.setCell ?_ (by first | (simp; done) | (simp; omega)) _ | refine Ext.drewN ?_ _ | refine Ext.alloc ?_ _ | refine Ext.drew ?_ | refine Ext.trans ?_ (by assumption)))⟩
      case rest =>
        obtain ⟨rfl, hx4⟩ := hcut
        have t1 : (suitE s a0 a1 a2 a3 a4 a5 a6 a7 a8 a9 p q g0 g1 g2 != 0) = true := by simpa using HE.out
        go_wp2
        go_ret
        exact ⟨ret_b (by simp), (by repeat (first | exact Ext.refl _ | assumption | refine Ext.setCell ?_ (by first | (simp; done) | (simp; omega)) _ | refine Ext.drewN ?_ _ | refine Ext.alloc ?_ _ | refine Ext.drew ?_ | refine Ext.trans ?_ (by assumption)))⟩

set_option maxRecDepth 100000 in
set_option maxHeartbeats 6400000 in
theorem suits_ok (s : ByteArray) (a0 a1 a2 a3 a4 a5 a6 a7 a8 a9 g0 g1 g2 v low high soft : Nat) (p q : Int) (w : World) (hs : s.size ≤ 9223372036854775807) (hL : (FloatKind.f32.format.order g1 0 == some .lt) = false) (hE : suitE s a0 a1 a2 a3 a4 a5 a6 a7 a8 a9 p q g0 g1 g2 = 0) :
    Calls Tryd.prog 4 #[.agg #[.string s, .float .f32 a0, .float .f32 a1, .float .f32 a2, .float .f32 a3, .float .f32 a4, .float .f32 a5, .float .f32 a6, .float .f32 a7, .float .f32 a8, .float .f32 a9, .int .i64 p, .int .i64 q], .agg #[.float .f32 g0, .float .f32 g1, .float .f32 g2], .float .f32 v, .float .f32 low, .float .f32 high, .float .f32 soft] w fun e w' => e = .returned (.bool true) ∧ Ext w w' := by
  have HKE := fun (w : World) => hidA (kindError_any s a0 a1 a2 a3 a4 a5 a6 a7 a8 a9 p q w hs)
  have HL := hidA hL
  have HE := hidA hE
  have z0 : (FloatKind.f32.format.order 0 0 == some .eq) = true := by decide +kernel
  clear hE
  go_enter Tryd.func4, Tryd.ntmps4
  go_upto_region 1 with fail
  go_cut [13, 14] from 18 to 25 (fun s13 s14 wx => ∃ (r : Nat), s13 = .float .f32 r ∧ s14 = .int .i64 (slackE v low high soft) ∧ (slackE v low high soft = 0 → r = slackF v low high soft) ∧ (slackE v low high soft ≠ 0 → r = 0) ∧ Ext ((w.alloc (.cells #[.string s, .float .f32 a0, .float .f32 a1, .float .f32 a2, .float .f32 a3, .float .f32 a4, .float .f32 a5, .float .f32 a6, .float .f32 a7, .float .f32 a8, .float .f32 a9, .int .i64 p, .int .i64 q] 28)).alloc (.cells #[.float .f32 g0, .float .f32 g1, .float .f32 g2] 32)) wx)
  case first =>
    by_cases hz : slackE v low high soft = 0
    · go_wp2_with fail
      refine (Slack_ok v low high soft _ hz).mono ?_
      rintro e w1 ⟨rfl, hb1⟩
      go_wp2_with fail
      go_meet
      case rel => exact ⟨_, rfl, by rw [hz], fun _ => rfl, fun h => absurd hz h, (by repeat (first | exact Ext.refl _ | assumption | refine Ext.setCell ?_ (by first | (simp; done) | (simp; omega)) _ | refine Ext.drewN ?_ _ | refine Ext.alloc ?_ _ | refine Ext.drew ?_ | refine Ext.trans ?_ (by assumption)))⟩
    · go_wp2_with fail
      refine (Slack_bad v low high soft _ hz).mono ?_
      rintro e w1 ⟨rfl, hb1⟩
      go_wp2_with fail
      go_meet
      case rel => exact ⟨_, rfl, rfl, fun h => absurd h hz, fun _ => rfl, (by repeat (first | exact Ext.refl _ | assumption | refine Ext.setCell ?_ (by first | (simp; done) | (simp; omega)) _ | refine Ext.drewN ?_ _ | refine Ext.alloc ?_ _ | refine Ext.drew ?_ | refine Ext.trans ?_ (by assumption)))⟩
  case rest =>
    obtain ⟨r, rfl, rfl, hr1, hr2, hb1⟩ := hcut
    obtain ⟨w1, hw1⟩ : ∃ w1, w1 = wc := ⟨_, rfl⟩
    subst hw1
    have Hr1 := hidA hr1
    have Hr2 := hidA hr2
    have hK : Bk w1 w.heap.size 28 #[.string s, .float .f32 a0, .float .f32 a1, .float .f32 a2, .float .f32 a3, .float .f32 a4, .float .f32 a5, .float .f32 a6, .float .f32 a7, .float .f32 a8, .float .f32 a9, .int .i64 p, .int .i64 q] := ((Bk.new' rfl).alloc _).ext hb1
    have hG : Bk w1 (w.heap.size + 1) 32 #[.float .f32 g0, .float .f32 g1, .float .f32 g2] := (Bk.new' (by simp)).ext hb1
    have hx1 : Ext w w1 := (((Ext.refl w).alloc _).alloc _).trans hb1
    clear hr1 hr2 hb1
    go_upto_region 3 with (first
      | (go_at_call 13; refine (numberError_any _ 4 4 [v, low, high, soft] _ rfl (Rd.new (by first | rfl | simp) rfl) (by omega)).mono ?_; rintro e w' ⟨rfl, rfl⟩)
      | (go_at_call_of 14 (Value.int IntKind.i64 8); refine (when_lt high low 8 _).mono ?_; rintro e w' ⟨rfl, rfl⟩)
      | (go_at_call 14; refine (when_lt soft 0 3 _).mono ?_; rintro e w' ⟨rfl, rfl⟩)
      | (go_at_call 12; refine (first_any _ 3 3 [numE [v, low, high, soft], ifE (lt high low) 8, ifE (lt soft 0) 3] _ rfl (Rd.new (by first | rfl | simp) rfl) (by omega)).mono ?_; rw [slack_first]; rintro e w' ⟨rfl, rfl⟩))
    go_cut [73] from 41 to 72 (fun s73 wx => s73 = .bool false ∧ Ext w1 wx)
    case first =>
      by_cases hz : slackE v low high soft = 0
      · obtain rfl := Hr1.out hz
        obtain ⟨c0, c1, c2, c3⟩ := slackE_zero hz
        have t1 : (slackE v low high soft != 0) = false := by simpa using hz
        have t2 : (slackE v low high soft == 0) = true := by simpa using hz
        clear hz Hr1 Hr2
        go_wp2_with (first
          | (go_at_call 6; refine (grows_any _).mono ?_; rintro e w2 ⟨rfl, hb2⟩)
          | (go_at_call 16; refine (slackOf_any v low high soft _ c0 c1 c2 c3).mono ?_; rintro e w' ⟨rfl, hw'⟩; rw [hw']; clear hw' w')
          | (go_at_call 15; refine (bit_same _ _).mono ?_; rintro e w' ⟨rfl, hw'⟩; rw [hw']; clear hw' w'))
        go_meet
        case rel => exact ⟨rfl, (by repeat (first | exact Ext.refl _ | assumption | refine Ext.setCell ?_ (by first | (simp; done) | (simp; omega)) _ | refine Ext.drewN ?_ _ | refine Ext.alloc ?_ _ | refine Ext.drew ?_ | refine Ext.trans ?_ (by assumption)))⟩
      · obtain rfl := Hr2.out hz
        have t1 : (slackE v low high soft != 0) = true := by simpa using hz
        have t2 : (slackE v low high soft == 0) = false := by simpa using hz
        clear hz Hr1 Hr2
        go_wp2_with (first
          | (go_at_call 6; refine (grows_any _).mono ?_; rintro e w2 ⟨rfl, hb2⟩))
        go_meet
        case rel => exact ⟨by simp, (by repeat (first | exact Ext.refl _ | assumption | refine Ext.setCell ?_ (by first | (simp; done) | (simp; omega)) _ | refine Ext.drewN ?_ _ | refine Ext.alloc ?_ _ | refine Ext.drew ?_ | refine Ext.trans ?_ (by assumption)))⟩
    case rest =>
      obtain ⟨rfl, hx2⟩ := hcut
      obtain ⟨w2, hw2⟩ : ∃ w2, w2 = wc := ⟨_, rfl⟩
      subst hw2
      have hK2 := hK.ext hx2
      have hG2 := hG.ext hx2
      have d0 := hK2.cell 0
      have d1 := hK2.cell 1
      have d2 := hK2.cell 2
      have d3 := hK2.cell 3
      have d4 := hK2.cell 4
      have d5 := hK2.cell 5
      have d6 := hK2.cell 6
      have d7 := hK2.cell 7
      have d8 := hK2.cell 8
      have d9 := hK2.cell 9
      have d10 := hK2.cell 10
      have d11 := hK2.cell 11
      have d12 := hK2.cell 12
      have e0 := hG2.cell 0
      have e1 := hG2.cell 1
      have e2 := hG2.cell 2
      clear Hr1 Hr2
      go_wp2_with fail
      refine (Suit_ok s a0 a1 a2 a3 a4 a5 a6 a7 a8 a9 g0 g1 g2 p q _ hs HE.out).mono ?_
      rintro e w3 ⟨rfl, hb3⟩
      clear d0 d1 d2 d3 d4 d5 d6 d7 d8 d9 d10 d11 d12 e0 e1 e2
      have hK3 := hK2.ext hb3
      have hG3 := hG2.ext hb3
      have hx3 := (hx1.trans hx2).trans hb3
      have s0 : ∀ w', Ext w3 w' → w'.cell? ⟨w.heap.size, 0, none⟩ = some (.string s) := fun w' h => (hK3.ext h).cell 0
      have s1 : ∀ w', Ext w3 w' → w'.cell? ⟨w.heap.size, 1, none⟩ = some (.float .f32 a0) := fun w' h => (hK3.ext h).cell 1
      have s2 : ∀ w', Ext w3 w' → w'.cell? ⟨w.heap.size, 2, none⟩ = some (.float .f32 a1) := fun w' h => (hK3.ext h).cell 2
      have s3 : ∀ w', Ext w3 w' → w'.cell? ⟨w.heap.size, 3, none⟩ = some (.float .f32 a2) := fun w' h => (hK3.ext h).cell 3
      have s4 : ∀ w', Ext w3 w' → w'.cell? ⟨w.heap.size, 4, none⟩ = some (.float .f32 a3) := fun w' h => (hK3.ext h).cell 4
      have s5 : ∀ w', Ext w3 w' → w'.cell? ⟨w.heap.size, 5, none⟩ = some (.float .f32 a4) := fun w' h => (hK3.ext h).cell 5
      have s6 : ∀ w', Ext w3 w' → w'.cell? ⟨w.heap.size, 6, none⟩ = some (.float .f32 a5) := fun w' h => (hK3.ext h).cell 6
      have s7 : ∀ w', Ext w3 w' → w'.cell? ⟨w.heap.size, 7, none⟩ = some (.float .f32 a6) := fun w' h => (hK3.ext h).cell 7
      have s8 : ∀ w', Ext w3 w' → w'.cell? ⟨w.heap.size, 8, none⟩ = some (.float .f32 a7) := fun w' h => (hK3.ext h).cell 8
      have s9 : ∀ w', Ext w3 w' → w'.cell? ⟨w.heap.size, 9, none⟩ = some (.float .f32 a8) := fun w' h => (hK3.ext h).cell 9
      have s10 : ∀ w', Ext w3 w' → w'.cell? ⟨w.heap.size, 10, none⟩ = some (.float .f32 a9) := fun w' h => (hK3.ext h).cell 10
      have s11 : ∀ w', Ext w3 w' → w'.cell? ⟨w.heap.size, 11, none⟩ = some (.int .i64 p) := fun w' h => (hK3.ext h).cell 11
      have s12 : ∀ w', Ext w3 w' → w'.cell? ⟨w.heap.size, 12, none⟩ = some (.int .i64 q) := fun w' h => (hK3.ext h).cell 12
      have u0 : ∀ w', Ext w3 w' → w'.cell? ⟨w.heap.size + 1, 0, none⟩ = some (.float .f32 g0) := fun w' h => (hG3.ext h).cell 0
      have u1 : ∀ w', Ext w3 w' → w'.cell? ⟨w.heap.size + 1, 1, none⟩ = some (.float .f32 g1) := fun w' h => (hG3.ext h).cell 1
      have u2 : ∀ w', Ext w3 w' → w'.cell? ⟨w.heap.size + 1, 2, none⟩ = some (.float .f32 g2) := fun w' h => (hG3.ext h).cell 2
      have hl' := HL.out
      clear hK hG hK2 hG2 hL
      go_upto_region 6 with fail
      go_cut [15] from 80 to 100 (fun s15 wx => s15 = .int .i64 (suitE s a0 a1 a2 a3 a4 a5 a6 a7 a8 a9 p q g0 g1 g2) ∧ Ext w3 wx)
      case first =>
        refine wp_region_noPanic ?_
        refine wp_region_held_drew (S := fun w' => Ext w3 w') (by kernel_rfl) ?_ (fun hHeld => ?_)
        · (repeat (first | exact Ext.refl _ | assumption | refine Ext.setCell ?_ (by first | (simp; done) | (simp; omega)) _ | refine Ext.drewN ?_ _ | refine Ext.alloc ?_ _ | refine Ext.drew ?_ | refine Ext.trans ?_ (by assumption)))
        refine wpAnyH_take (i := 0) (oi := ?o70x0) (v := ?v70x0) ?hi70x0 (by kernel_rfl) ?hf70x0 ?hr70x0 (fun _ _ _ h => h) ?hy70x0 (by assumption) ?rest70x0
        case hi70x0 => (simp only [List.getElem?_toArray, List.getElem?_cons_zero]; exact rfl)
        case hf70x0 => kernel_rfl
        case hr70x0 => kernel_rfl
        case hy70x0 => (refine Or.inl ⟨by rfl, ?_⟩; intro w hSw; (try dsimp only at hSw); go_simp; try with_reducible rfl)
        simp only [put_mk, List.set_cons_succ, List.set_cons_zero]
        refine wpAnyH_take (i := 2) (oi := ?o71x2) (v := ?v71x2) ?hi71x2 (by kernel_rfl) ?hf71x2 ?hr71x2 (fun _ _ _ h => h) ?hy71x2 (by assumption) ?rest71x2
        case hi71x2 => (simp only [List.getElem?_toArray, List.getElem?_cons_succ, List.getElem?_cons_zero]; exact rfl)
        case hf71x2 => kernel_rfl
        case hr71x2 => kernel_rfl
        case hy71x2 => (refine Or.inl ⟨by rfl, ?_⟩; intro w hSw; (try dsimp only at hSw); go_simp; try with_reducible rfl)
        simp only [put_mk, List.set_cons_succ, List.set_cons_zero]
        refine wpAnyH_take (i := 3) (oi := ?o72x3) (v := ?v72x3) ?hi72x3 (by kernel_rfl) ?hf72x3 ?hr72x3 (fun _ _ _ h => h) ?hy72x3 (by assumption) ?rest72x3
        case hi72x3 => (simp only [List.getElem?_toArray, List.getElem?_cons_succ, List.getElem?_cons_zero]; exact rfl)
        case hf72x3 => kernel_rfl
        case hr72x3 => kernel_rfl
        case hy72x3 => (refine Or.inl ⟨by rfl, ?_⟩; intro w hSw; (try dsimp only at hSw); go_simp; try with_reducible rfl)
        simp only [put_mk, List.set_cons_succ, List.set_cons_zero]
        refine wpAnyH_take (i := 4) (oi := ?o73x4) (v := ?v73x4) ?hi73x4 (by kernel_rfl) ?hf73x4 ?hr73x4 (fun _ _ _ h => h) ?hy73x4 (by assumption) ?rest73x4
        case hi73x4 => (simp only [List.getElem?_toArray, List.getElem?_cons_succ, List.getElem?_cons_zero]; exact rfl)
        case hf73x4 => kernel_rfl
        case hr73x4 => kernel_rfl
        case hy73x4 => (refine Or.inl ⟨by rfl, ?_⟩; intro w hSw; (try dsimp only at hSw); go_simp; try with_reducible rfl)
        simp only [put_mk, List.set_cons_succ, List.set_cons_zero]
        refine wpAnyH_take (i := 5) (oi := ?o74x5) (v := ?v74x5) ?hi74x5 (by kernel_rfl) ?hf74x5 ?hr74x5 (fun _ _ _ h => h) ?hy74x5 (by assumption) ?rest74x5
        case hi74x5 => (simp only [List.getElem?_toArray, List.getElem?_cons_succ, List.getElem?_cons_zero]; exact rfl)
        case hf74x5 => kernel_rfl
        case hr74x5 => kernel_rfl
        case hy74x5 => (refine Or.inl ⟨by rfl, ?_⟩; intro w hSw; (try dsimp only at hSw); go_simp; try with_reducible rfl)
        simp only [put_mk, List.set_cons_succ, List.set_cons_zero]
        refine wpAnyH_take (i := 6) (oi := ?o75x6) (v := ?v75x6) ?hi75x6 (by kernel_rfl) ?hf75x6 ?hr75x6 (fun _ _ _ h => h) ?hy75x6 (by assumption) ?rest75x6
        case hi75x6 => (simp only [List.getElem?_toArray, List.getElem?_cons_succ, List.getElem?_cons_zero]; exact rfl)
        case hf75x6 => kernel_rfl
        case hr75x6 => kernel_rfl
        case hy75x6 => (refine Or.inl ⟨by rfl, ?_⟩; intro w hSw; (try dsimp only at hSw); go_simp; try with_reducible rfl)
        simp only [put_mk, List.set_cons_succ, List.set_cons_zero]
        refine wpAnyH_take (i := 7) (oi := ?o76x7) (v := ?v76x7) ?hi76x7 (by kernel_rfl) ?hf76x7 ?hr76x7 (fun _ _ _ h => h) ?hy76x7 (by assumption) ?rest76x7
        case hi76x7 => (simp only [List.getElem?_toArray, List.getElem?_cons_succ, List.getElem?_cons_zero]; exact rfl)
        case hf76x7 => kernel_rfl
        case hr76x7 => kernel_rfl
        case hy76x7 => (refine Or.inl ⟨by rfl, ?_⟩; intro w hSw; (try dsimp only at hSw); go_simp; try with_reducible rfl)
        simp only [put_mk, List.set_cons_succ, List.set_cons_zero]
        refine wpAnyH_take (i := 10) (oi := ?o77x10) (v := ?v77x10) ?hi77x10 (by kernel_rfl) ?hf77x10 ?hr77x10 (fun _ _ _ h => h) ?hy77x10 (by assumption) ?rest77x10
        case hi77x10 => (simp only [List.getElem?_toArray, List.getElem?_cons_succ, List.getElem?_cons_zero]; exact rfl)
        case hf77x10 => kernel_rfl
        case hr77x10 => kernel_rfl
        case hy77x10 => (refine Or.inl ⟨by rfl, ?_⟩; intro w hSw; (try dsimp only at hSw); go_simp; try with_reducible rfl)
        simp only [put_mk, List.set_cons_succ, List.set_cons_zero]
        refine wpAnyH_take (i := 11) (oi := ?o78x11) (v := ?v78x11) ?hi78x11 (by kernel_rfl) ?hf78x11 ?hr78x11 (fun _ _ _ h => h) ?hy78x11 (by assumption) ?rest78x11
        case hi78x11 => (simp only [List.getElem?_toArray, List.getElem?_cons_succ, List.getElem?_cons_zero]; exact rfl)
        case hf78x11 => kernel_rfl
        case hr78x11 => kernel_rfl
        case hy78x11 => (refine Or.inl ⟨by rfl, ?_⟩; intro w hSw; (try dsimp only at hSw); go_simp; try with_reducible rfl)
        simp only [put_mk, List.set_cons_succ, List.set_cons_zero]
        refine wpAnyH_take (i := 12) (oi := ?o79x12) (v := ?v79x12) ?hi79x12 (by kernel_rfl) ?hf79x12 ?hr79x12 (fun _ _ _ h => h) ?hy79x12 (by assumption) ?rest79x12
        case hi79x12 => (simp only [List.getElem?_toArray, List.getElem?_cons_succ, List.getElem?_cons_zero]; exact rfl)
        case hf79x12 => kernel_rfl
        case hr79x12 => kernel_rfl
        case hy79x12 => (refine Or.inl ⟨by rfl, ?_⟩; intro w hSw; (try dsimp only at hSw); go_simp; try with_reducible rfl)
        simp only [put_mk, List.set_cons_succ, List.set_cons_zero]
        refine wpAnyH_ready (rs := [1, 8]) (by kernel_rfl) (by simp) ?_
        refine (AllReadyH.cons (o := ?o80x1) ?hi80x1 (fun K hK => ?_) (AllReadyH.cons (o := ?o80x8) ?hi80x8 (fun K hK => ?_) AllReadyH.nil))
        case hi80x1 => (simp only [List.getElem?_toArray, List.getElem?_cons_succ, List.getElem?_cons_zero]; exact rfl)
        case hi80x8 => (simp only [List.getElem?_toArray, List.getElem?_cons_succ, List.getElem?_cons_zero]; exact rfl)
        · go_simp
          refine ((HKE _).out).mono ?_
          rintro e w5 ⟨rfl, hb5⟩
          refine hK.out _ _ ?_ (fun hHeld => ?_)
          · (repeat (first | exact Ext.refl _ | assumption | refine Ext.setCell ?_ (by first | (simp; done) | (simp; omega)) _ | refine Ext.drewN ?_ _ | refine Ext.alloc ?_ _ | refine Ext.drew ?_ | refine Ext.trans ?_ (by assumption)))
          clear hK K
          refine wpAnyH_ready (rs := [8]) (by kernel_rfl) (by simp) ?_
          refine AllReadyH.cons (o := ?o81x8) ?hi81x8 (fun K hK => ?_) AllReadyH.nil
          case hi81x8 => (simp only [List.getElem?_toArray, List.getElem?_cons_succ, List.getElem?_cons_zero]; exact rfl)
          go_simp
          refine hK.out _ _ ?_ (fun hHeld => ?_)
          · (repeat (first | exact Ext.refl _ | assumption | refine Ext.setCell ?_ (by first | (simp; done) | (simp; omega)) _ | refine Ext.drewN ?_ _ | refine Ext.alloc ?_ _ | refine Ext.drew ?_ | refine Ext.trans ?_ (by assumption)))
          clear hK K
          refine wpAnyH_ready (rs := [9]) (by kernel_rfl) (by simp) ?_
          refine AllReadyH.cons (o := ?o82x9) ?hi82x9 (fun K hK => ?_) AllReadyH.nil
          case hi82x9 => (simp only [List.getElem?_toArray, List.getElem?_cons_succ, List.getElem?_cons_zero]; exact rfl)
          go_simp
          refine (numberError_any _ 3 3 [g0, g1, g2] _ rfl ?_ (by omega)).mono ?_
          · first | exact Rd.new (by first | rfl | simp) rfl | exact (Rd.new (by first | rfl | simp) rfl).ext hb5 | exact ((Rd.new (by first | rfl | simp) rfl).ext ((Ext.refl _).drew)).ext hb5
          rintro e w' ⟨rfl, rfl⟩
          refine hK.out _ _ ?_ (fun hHeld => ?_)
          · (repeat (first | exact Ext.refl _ | assumption | refine Ext.setCell ?_ (by first | (simp; done) | (simp; omega)) _ | refine Ext.drewN ?_ _ | refine Ext.alloc ?_ _ | refine Ext.drew ?_ | refine Ext.trans ?_ (by assumption)))
          clear hK K
          refine wpAnyH_take (i := 13) (oi := ?o83x13) (v := ?v83x13) ?hi83x13 (by kernel_rfl) ?hf83x13 ?hr83x13 (fun _ _ _ h => h) ?hy83x13 (by assumption) ?rest83x13
          case hi83x13 => (simp only [List.getElem?_toArray, List.getElem?_cons_succ, List.getElem?_cons_zero]; exact rfl)
          case hf83x13 => kernel_rfl
          case hr83x13 => kernel_rfl
          case hy83x13 => (refine Or.inl ⟨by rfl, ?_⟩; intro w hSw; (try dsimp only at hSw); go_simp; try with_reducible rfl)
          simp only [put_mk, List.set_cons_succ, List.set_cons_zero]
          refine wpAnyH_take (i := 14) (oi := ?o84x14) (v := ?v84x14) ?hi84x14 (by kernel_rfl) ?hf84x14 ?hr84x14 (fun _ _ _ h => h) ?hy84x14 (by assumption) ?rest84x14
          case hi84x14 => (simp only [List.getElem?_toArray, List.getElem?_cons_succ, List.getElem?_cons_zero]; exact rfl)
          case hf84x14 => kernel_rfl
          case hr84x14 => kernel_rfl
          case hy84x14 => (refine Or.inl ⟨by rfl, ?_⟩; intro w hSw; (try dsimp only at hSw); go_simp; try with_reducible rfl)
          simp only [put_mk, List.set_cons_succ, List.set_cons_zero]
          refine wpAnyH_take (i := 15) (oi := ?o85x15) (v := ?v85x15) ?hi85x15 (by kernel_rfl) ?hf85x15 ?hr85x15 (fun _ _ _ h => h) ?hy85x15 (by assumption) ?rest85x15
          case hi85x15 => (simp only [List.getElem?_toArray, List.getElem?_cons_succ, List.getElem?_cons_zero]; exact rfl)
          case hf85x15 => kernel_rfl
          case hr85x15 => kernel_rfl
          case hy85x15 => (refine Or.inl ⟨by rfl, ?_⟩; intro w hSw; (try dsimp only at hSw); go_simp; try with_reducible rfl)
          simp only [put_mk, List.set_cons_succ, List.set_cons_zero]
          refine wpAnyH_take (i := 16) (oi := ?o86x16) (v := ?v86x16) ?hi86x16 (by kernel_rfl) ?hf86x16 ?hr86x16 (fun _ _ _ h => h) ?hy86x16 (by assumption) ?rest86x16
          case hi86x16 => (simp only [List.getElem?_toArray, List.getElem?_cons_succ, List.getElem?_cons_zero]; exact rfl)
          case hf86x16 => kernel_rfl
          case hr86x16 => kernel_rfl
          case hy86x16 => (refine Or.inl ⟨by rfl, ?_⟩; intro w hSw; (try dsimp only at hSw); go_simp; try with_reducible rfl)
          simp only [put_mk, List.set_cons_succ, List.set_cons_zero]
          refine wpAnyH_take (i := 17) (oi := ?o87x17) (v := ?v87x17) ?hi87x17 (by kernel_rfl) ?hf87x17 ?hr87x17 (fun _ _ _ h => h) ?hy87x17 (by assumption) ?rest87x17
          case hi87x17 => (simp only [List.getElem?_toArray, List.getElem?_cons_succ, List.getElem?_cons_zero]; exact rfl)
          case hf87x17 => kernel_rfl
          case hr87x17 => kernel_rfl
          case hy87x17 => (refine Or.inl ⟨by rfl, ?_⟩; intro w hSw; (try dsimp only at hSw); go_simp; try with_reducible rfl)
          simp only [put_mk, List.set_cons_succ, List.set_cons_zero]
          refine wpAnyH_ready (rs := [18]) (by kernel_rfl) (by simp) ?_
          refine AllReadyH.cons (o := ?o88x18) ?hi88x18 (fun K hK => ?_) AllReadyH.nil
          case hi88x18 => (simp only [List.getElem?_toArray, List.getElem?_cons_succ, List.getElem?_cons_zero]; exact rfl)
          go_simp
          refine (negs_no g1 g2 _ HL.out).mono ?_
          rintro e w' ⟨rfl, rfl⟩
          refine hK.out _ _ ?_ (fun hHeld => ?_)
          · (repeat (first | exact Ext.refl _ | assumption | refine Ext.setCell ?_ (by first | (simp; done) | (simp; omega)) _ | refine Ext.drewN ?_ _ | refine Ext.alloc ?_ _ | refine Ext.drew ?_ | refine Ext.trans ?_ (by assumption)))
          clear hK K
          refine wpAnyH_ready (rs := [19]) (by kernel_rfl) (by simp) ?_
          refine AllReadyH.cons (o := ?o89x19) ?hi89x19 (fun K hK => ?_) AllReadyH.nil
          case hi89x19 => (simp only [List.getElem?_toArray, List.getElem?_cons_succ, List.getElem?_cons_zero]; exact rfl)
          go_simp
          refine hK.out _ _ ?_ (fun hHeld => ?_)
          · (repeat (first | exact Ext.refl _ | assumption | refine Ext.setCell ?_ (by first | (simp; done) | (simp; omega)) _ | refine Ext.drewN ?_ _ | refine Ext.alloc ?_ _ | refine Ext.drew ?_ | refine Ext.trans ?_ (by assumption)))
          clear hK K
          refine wpAnyH_ready (rs := [20]) (by kernel_rfl) (by simp) ?_
          refine AllReadyH.cons (o := ?o90x20) ?hi90x20 (fun K hK => ?_) AllReadyH.nil
          case hi90x20 => (simp only [List.getElem?_toArray, List.getElem?_cons_succ, List.getElem?_cons_zero]; exact rfl)
          go_simp
          refine (first_any _ 3 3 [kindE s a0 a1 a2 a3 a4 a5 a6 a7 a8 a9 p q, numE [g0, g1, g2], negsE g1 g2] _ rfl (Rd.new (by first | rfl | simp) rfl) (by omega)).mono ?_
          rw [suit_first]
          rintro e w' ⟨rfl, rfl⟩
          refine hK.out _ _ ?_ (fun hHeld => ?_)
          · (repeat (first | exact Ext.refl _ | assumption | refine Ext.setCell ?_ (by first | (simp; done) | (simp; omega)) _ | refine Ext.drewN ?_ _ | refine Ext.alloc ?_ _ | refine Ext.drew ?_ | refine Ext.trans ?_ (by assumption)))
          clear hK K
          refine wpAnyH_take (i := 21) (oi := ?o91x21) (v := ?v91x21) ?hi91x21 (by kernel_rfl) ?hf91x21 ?hr91x21 (fun _ _ _ h => h) ?hy91x21 (by assumption) ?rest91x21
          case hi91x21 => (simp only [List.getElem?_toArray, List.getElem?_cons_succ, List.getElem?_cons_zero]; exact rfl)
          case hf91x21 => kernel_rfl
          case hr91x21 => kernel_rfl
          case hy91x21 => (refine Or.inl ⟨by rfl, ?_⟩; intro w hSw; (try dsimp only at hSw); go_simp; try with_reducible rfl)
          simp only [put_mk, List.set_cons_succ, List.set_cons_zero]
          refine wpAnyH_done (by kernel_rfl) ?_ _
          refine NoPanic.normal ?_
          go_wp2_with fail
          go_meet
          case rel => exact ⟨rfl, (by repeat (first | exact Ext.refl _ | assumption | refine Ext.setCell ?_ (by first | (simp; done) | (simp; omega)) _ | refine Ext.drewN ?_ _ | refine Ext.alloc ?_ _ | refine Ext.drew ?_ | refine Ext.trans ?_ (by assumption)))⟩
        · go_simp
          refine hK.out _ _ ?_ (fun hHeld => ?_)
          · (repeat (first | exact Ext.refl _ | assumption | refine Ext.setCell ?_ (by first | (simp; done) | (simp; omega)) _ | refine Ext.drewN ?_ _ | refine Ext.alloc ?_ _ | refine Ext.drew ?_ | refine Ext.trans ?_ (by assumption)))
          clear hK K
          refine wpAnyH_ready (rs := [1]) (by kernel_rfl) (by simp) ?_
          refine AllReadyH.cons (o := ?o92x1) ?hi92x1 (fun K hK => ?_) AllReadyH.nil
          case hi92x1 => (simp only [List.getElem?_toArray, List.getElem?_cons_succ, List.getElem?_cons_zero]; exact rfl)
          go_simp
          refine ((HKE _).out).mono ?_
          rintro e w5 ⟨rfl, hb5⟩
          refine hK.out _ _ ?_ (fun hHeld => ?_)
          · (repeat (first | exact Ext.refl _ | assumption | refine Ext.setCell ?_ (by first | (simp; done) | (simp; omega)) _ | refine Ext.drewN ?_ _ | refine Ext.alloc ?_ _ | refine Ext.drew ?_ | refine Ext.trans ?_ (by assumption)))
          clear hK K
          refine wpAnyH_ready (rs := [9]) (by kernel_rfl) (by simp) ?_
          refine AllReadyH.cons (o := ?o93x9) ?hi93x9 (fun K hK => ?_) AllReadyH.nil
          case hi93x9 => (simp only [List.getElem?_toArray, List.getElem?_cons_succ, List.getElem?_cons_zero]; exact rfl)
          go_simp
          refine (numberError_any _ 3 3 [g0, g1, g2] _ rfl ?_ (by omega)).mono ?_
          · first | exact Rd.new (by first | rfl | simp) rfl | exact (Rd.new (by first | rfl | simp) rfl).ext hb5 | exact ((Rd.new (by first | rfl | simp) rfl).ext ((Ext.refl _).drew)).ext hb5
          rintro e w' ⟨rfl, rfl⟩
          refine hK.out _ _ ?_ (fun hHeld => ?_)
          · (repeat (first | exact Ext.refl _ | assumption | refine Ext.setCell ?_ (by first | (simp; done) | (simp; omega)) _ | refine Ext.drewN ?_ _ | refine Ext.alloc ?_ _ | refine Ext.drew ?_ | refine Ext.trans ?_ (by assumption)))
          clear hK K
          refine wpAnyH_take (i := 13) (oi := ?o94x13) (v := ?v94x13) ?hi94x13 (by kernel_rfl) ?hf94x13 ?hr94x13 (fun _ _ _ h => h) ?hy94x13 (by assumption) ?rest94x13
          case hi94x13 => (simp only [List.getElem?_toArray, List.getElem?_cons_succ, List.getElem?_cons_zero]; exact rfl)
          case hf94x13 => kernel_rfl
          case hr94x13 => kernel_rfl
          case hy94x13 => (refine Or.inl ⟨by rfl, ?_⟩; intro w hSw; (try dsimp only at hSw); go_simp; try with_reducible rfl)
          simp only [put_mk, List.set_cons_succ, List.set_cons_zero]
          refine wpAnyH_take (i := 14) (oi := ?o95x14) (v := ?v95x14) ?hi95x14 (by kernel_rfl) ?hf95x14 ?hr95x14 (fun _ _ _ h => h) ?hy95x14 (by assumption) ?rest95x14
          case hi95x14 => (simp only [List.getElem?_toArray, List.getElem?_cons_succ, List.getElem?_cons_zero]; exact rfl)
          case hf95x14 => kernel_rfl
          case hr95x14 => kernel_rfl
          case hy95x14 => (refine Or.inl ⟨by rfl, ?_⟩; intro w hSw; (try dsimp only at hSw); go_simp; try with_reducible rfl)
          simp only [put_mk, List.set_cons_succ, List.set_cons_zero]
          refine wpAnyH_take (i := 15) (oi := ?o96x15) (v := ?v96x15) ?hi96x15 (by kernel_rfl) ?hf96x15 ?hr96x15 (fun _ _ _ h => h) ?hy96x15 (by assumption) ?rest96x15
          case hi96x15 => (simp only [List.getElem?_toArray, List.getElem?_cons_succ, List.getElem?_cons_zero]; exact rfl)
          case hf96x15 => kernel_rfl
          case hr96x15 => kernel_rfl
          case hy96x15 => (refine Or.inl ⟨by rfl, ?_⟩; intro w hSw; (try dsimp only at hSw); go_simp; try with_reducible rfl)
          simp only [put_mk, List.set_cons_succ, List.set_cons_zero]
          refine wpAnyH_take (i := 16) (oi := ?o97x16) (v := ?v97x16) ?hi97x16 (by kernel_rfl) ?hf97x16 ?hr97x16 (fun _ _ _ h => h) ?hy97x16 (by assumption) ?rest97x16
          case hi97x16 => (simp only [List.getElem?_toArray, List.getElem?_cons_succ, List.getElem?_cons_zero]; exact rfl)
          case hf97x16 => kernel_rfl
          case hr97x16 => kernel_rfl
          case hy97x16 => (refine Or.inl ⟨by rfl, ?_⟩; intro w hSw; (try dsimp only at hSw); go_simp; try with_reducible rfl)
          simp only [put_mk, List.set_cons_succ, List.set_cons_zero]
          refine wpAnyH_take (i := 17) (oi := ?o98x17) (v := ?v98x17) ?hi98x17 (by kernel_rfl) ?hf98x17 ?hr98x17 (fun _ _ _ h => h) ?hy98x17 (by assumption) ?rest98x17
          case hi98x17 => (simp only [List.getElem?_toArray, List.getElem?_cons_succ, List.getElem?_cons_zero]; exact rfl)
          case hf98x17 => kernel_rfl
          case hr98x17 => kernel_rfl
          case hy98x17 => (refine Or.inl ⟨by rfl, ?_⟩; intro w hSw; (try dsimp only at hSw); go_simp; try with_reducible rfl)
          simp only [put_mk, List.set_cons_succ, List.set_cons_zero]
          refine wpAnyH_ready (rs := [18]) (by kernel_rfl) (by simp) ?_
          refine AllReadyH.cons (o := ?o99x18) ?hi99x18 (fun K hK => ?_) AllReadyH.nil
          case hi99x18 => (simp only [List.getElem?_toArray, List.getElem?_cons_succ, List.getElem?_cons_zero]; exact rfl)
          go_simp
          refine (negs_no g1 g2 _ HL.out).mono ?_
          rintro e w' ⟨rfl, rfl⟩
          refine hK.out _ _ ?_ (fun hHeld => ?_)
          · (repeat (first | exact Ext.refl _ | assumption | refine Ext.setCell ?_ (by first | (simp; done) | (simp; omega)) _ | refine Ext.drewN ?_ _ | refine Ext.alloc ?_ _ | refine Ext.drew ?_ | refine Ext.trans ?_ (by assumption)))
          clear hK K
          refine wpAnyH_ready (rs := [19]) (by kernel_rfl) (by simp) ?_
          refine AllReadyH.cons (o := ?o100x19) ?hi100x19 (fun K hK => ?_) AllReadyH.nil
          case hi100x19 => (simp only [List.getElem?_toArray, List.getElem?_cons_succ, List.getElem?_cons_zero]; exact rfl)
          go_simp
          refine hK.out _ _ ?_ (fun hHeld => ?_)
          · (repeat (first | exact Ext.refl _ | assumption | refine Ext.setCell ?_ (by first | (simp; done) | (simp; omega)) _ | refine Ext.drewN ?_ _ | refine Ext.alloc ?_ _ | refine Ext.drew ?_ | refine Ext.trans ?_ (by assumption)))
          clear hK K
          refine wpAnyH_ready (rs := [20]) (by kernel_rfl) (by simp) ?_
          refine AllReadyH.cons (o := ?o101x20) ?hi101x20 (fun K hK => ?_) AllReadyH.nil
          case hi101x20 => (simp only [List.getElem?_toArray, List.getElem?_cons_succ, List.getElem?_cons_zero]; exact rfl)
          go_simp
          refine (first_any _ 3 3 [kindE s a0 a1 a2 a3 a4 a5 a6 a7 a8 a9 p q, numE [g0, g1, g2], negsE g1 g2] _ rfl (Rd.new (by first | rfl | simp) rfl) (by omega)).mono ?_
          rw [suit_first]
          rintro e w' ⟨rfl, rfl⟩
          refine hK.out _ _ ?_ (fun hHeld => ?_)
          · (repeat (first | exact Ext.refl _ | assumption | refine Ext.setCell ?_ (by first | (simp; done) | (simp; omega)) _ | refine Ext.drewN ?_ _ | refine Ext.alloc ?_ _ | refine Ext.drew ?_ | refine Ext.trans ?_ (by assumption)))
          clear hK K
          refine wpAnyH_take (i := 21) (oi := ?o102x21) (v := ?v102x21) ?hi102x21 (by kernel_rfl) ?hf102x21 ?hr102x21 (fun _ _ _ h => h) ?hy102x21 (by assumption) ?rest102x21
          case hi102x21 => (simp only [List.getElem?_toArray, List.getElem?_cons_succ, List.getElem?_cons_zero]; exact rfl)
          case hf102x21 => kernel_rfl
          case hr102x21 => kernel_rfl
          case hy102x21 => (refine Or.inl ⟨by rfl, ?_⟩; intro w hSw; (try dsimp only at hSw); go_simp; try with_reducible rfl)
          simp only [put_mk, List.set_cons_succ, List.set_cons_zero]
          refine wpAnyH_done (by kernel_rfl) ?_ _
          refine NoPanic.normal ?_
          go_wp2_with fail
          go_meet
          case rel => exact ⟨rfl, (by repeat (first | exact Ext.refl _ | assumption | refine Ext.setCell ?_ (by first | (simp; done) | (simp; omega)) _ | refine Ext.drewN ?_ _ | refine Ext.alloc ?_ _ | refine Ext.drew ?_ | refine Ext.trans ?_ (by assumption)))⟩
      case rest =>
        obtain ⟨rfl, hx4⟩ := hcut
        have t1 : (suitE s a0 a1 a2 a3 a4 a5 a6 a7 a8 a9 p q g0 g1 g2 != 0) = false := by simpa using HE.out
        obtain ⟨hk, hn, hl1, hl2⟩ := suitE_zero s a0 a1 a2 a3 a4 a5 a6 a7 a8 a9 g0 g1 g2 p q HE.out
        obtain ⟨k0, k1, k2, k3, k4, k5⟩ := kindE_zero hk
        have hg := (numE_zero hn).2
        have hg1 : ord g1 0 ≠ some .lt := fun h' => by rw [lt_ord.2 h'] at hl1; cases hl1
        have HS := fun (w : World) => hidA (suitOf_any s a0 a1 a2 a3 a4 a5 a6 a7 a8 a9 g0 g1 g2 p q w (hgt_bd (hg g0 (by simp))) (hgt_bd (hg g1 (by simp))) (hgt_bd (hg g2 (by simp))) hg1 k0 k1 k2 k3 k4 k5)
        clear hk hn hl1 hl2 k0 k1 k2 k3 k4 k5 hg hg1
        have c0 := s0 _ hx4
        have c1 := s1 _ hx4
        have c2 := s2 _ hx4
        have c3 := s3 _ hx4
        have c4 := s4 _ hx4
        have c5 := s5 _ hx4
        have c6 := s6 _ hx4
        have c7 := s7 _ hx4
        have c8 := s8 _ hx4
        have c9 := s9 _ hx4
        have c10 := s10 _ hx4
        have c11 := s11 _ hx4
        have c12 := s12 _ hx4
        have c13 := u0 _ hx4
        have c14 := u1 _ hx4
        have c15 := u2 _ hx4
        go_wp2_with (first
          | (go_at_call 18; refine ((HS _).out).mono ?_; rintro e w5 ⟨rfl, hb5⟩)
          | (go_at_call 15; refine (bit_same _ _).mono ?_; rintro e w' ⟨rfl, hw'⟩; rw [hw']; clear hw' w'))
        go_ret
        exact ⟨ret_b (by simp), (by repeat (first | exact Ext.refl _ | assumption | refine Ext.setCell ?_ (by first | (simp; done) | (simp; omega)) _ | refine Ext.drewN ?_ _ | refine Ext.alloc ?_ _ | refine Ext.drew ?_ | refine Ext.trans ?_ (by assumption)))⟩

theorem suits_walk (s : ByteArray) (a0 a1 a2 a3 a4 a5 a6 a7 a8 a9 g0 g1 g2 v low high soft : Nat) (p q : Int) (w : World) (hs : s.size ≤ 9223372036854775807) :
    Calls Tryd.prog 4 #[.agg #[.string s, .float .f32 a0, .float .f32 a1, .float .f32 a2, .float .f32 a3, .float .f32 a4, .float .f32 a5, .float .f32 a6, .float .f32 a7, .float .f32 a8, .float .f32 a9, .int .i64 p, .int .i64 q], .agg #[.float .f32 g0, .float .f32 g1, .float .f32 g2], .float .f32 v, .float .f32 low, .float .f32 high, .float .f32 soft] w fun e w' => e = .returned (.bool true) ∧ Ext w w' := by
  by_cases hE : suitE s a0 a1 a2 a3 a4 a5 a6 a7 a8 a9 p q g0 g1 g2 = 0
  · exact suits_ok s a0 a1 a2 a3 a4 a5 a6 a7 a8 a9 g0 g1 g2 v low high soft p q w hs (suitE_zero s a0 a1 a2 a3 a4 a5 a6 a7 a8 a9 g0 g1 g2 p q hE).2.2.1 hE
  · by_cases hL : (FloatKind.f32.format.order g1 0 == some .lt) = true
    · exact suits_low s a0 a1 a2 a3 a4 a5 a6 a7 a8 a9 g0 g1 g2 v low high soft p q w hs hL hE
    · exact suits_bad s a0 a1 a2 a3 a4 a5 a6 a7 a8 a9 g0 g1 g2 v low high soft p q w hs ((Bool.not_eq_true _).mp hL) hE

end Go.Proofs.YtjkalnboijkikaaDoor
