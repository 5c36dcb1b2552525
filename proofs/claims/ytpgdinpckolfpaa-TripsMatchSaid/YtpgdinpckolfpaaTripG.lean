/- The law TripsMatch: it returns true for every number of sites, roads and site. -/
import Derived.Test.YtpgdinpckolfpaaTripF
import Derived.Test.YtpgdinpckolfpaaEqFl
import Derived.Test.YtpgdinpckolfpaaRdU
namespace Go.Proofs.Ytpgdinpckolfpaa
open Go.RowKit
attribute [local go_sem ↓] Go.wp_at_zero Go.wp_at_succ
attribute [local go_sem] run_store_float

theorem fin_parts {p : Nat} (h : finB p = true) : (FloatKind.f32.format.order p p == some .eq) = true ∧ (FloatKind.f32.format.order p 2139095039 == some .lt || FloatKind.f32.format.order p 2139095039 == some .eq) = true ∧ (FloatKind.f32.format.order p 4286578687 == some .gt || FloatKind.f32.format.order p 4286578687 == some .eq) = true := by
  have h1 := ord_self (fin_not_nan h)
  unfold finB at h
  rw [Bool.and_eq_true] at h
  refine ⟨?_, h.2, h.1⟩
  show (ord p p == some .eq) = true
  rw [h1]
  rfl
theorem fin_cases {p : Nat} (h : finB p = false) : (FloatKind.f32.format.order p p == some .eq) = false ∨ ((FloatKind.f32.format.order p p == some .eq) = true ∧ (FloatKind.f32.format.order p 2139095039 == some .lt || FloatKind.f32.format.order p 2139095039 == some .eq) = false) ∨
    ((FloatKind.f32.format.order p p == some .eq) = true ∧ (FloatKind.f32.format.order p 2139095039 == some .lt || FloatKind.f32.format.order p 2139095039 == some .eq) = true ∧ (FloatKind.f32.format.order p 4286578687 == some .gt || FloatKind.f32.format.order p 4286578687 == some .eq) = false) := by
  cases c1 : (FloatKind.f32.format.order p p == some .eq)
  · exact .inl rfl
  · right
    cases c2 : (FloatKind.f32.format.order p 2139095039 == some .lt || FloatKind.f32.format.order p 2139095039 == some .eq)
    · exact .inl ⟨rfl, rfl⟩
    · right
      refine ⟨rfl, rfl, ?_⟩
      unfold finB at h
      rw [Bool.and_eq_false_iff] at h
      rcases h with h | h
      · exact h
      · have h2 : (FloatKind.f32.format.order p 2139095039 == some .lt || FloatKind.f32.format.order p 2139095039 == some .eq) = false := h
        rw [h2] at c2
        cases c2
theorem flo_congrT {N : Nat} {f g : Nat → Nat} (h : ∀ k, k < N → f k = g k) : flo N f = flo N g := by
  unfold flo
  congr 1
  apply List.map_congr_left
  intro j hj
  rw [h j (List.mem_range.1 hj)]
theorem bools_congrT {N : Nat} {f g : Nat → Bool} (h : ∀ k, k < N → f k = g k) : bools N f = bools N g := by
  unfold bools
  congr 1
  apply List.map_congr_left
  intro j hj
  rw [h j (List.mem_range.1 hj)]
theorem rd_floT {w : World} {g N : Nat} {f : Nat → Nat} (h : Bk w g 27 (flo N f)) : Rd w (some ⟨g, 0, none⟩) (flt ((List.range N).map f)) := fun _ => ⟨_, rfl, h.lt, fun j u hu => by
  rw [lit_add, h.cell]
  have hj : j < N := by
    have := (List.getElem?_eq_some_iff.1 hu).1
    simpa [flt] using this
  rw [flo_get _ hj]
  simp [flt, hj] at hu
  rw [hu]⟩
set_option maxRecDepth 100000 in
set_option maxHeartbeats 1600000 in
theorem eqBo_sameT (g g' n : Nat) (f : Nat → Bool) (w : World) (hg : Bk w g 4 (bools n f)) (hg' : Bk w g' 4 (bools n f)) (hn : n ≤ 65536) :
    Calls Try.prog 31 #[.slice (some ⟨g, 0, none⟩) n n, .slice (some ⟨g', 0, none⟩) n n] w fun e w' => e = .returned (.bool true) ∧ Ext w w' := by
  go_enter Try.func31, Try.ntmps31
  go_wp2
  go_loopw [13] (fun i wr => ∃ k : Nat, k ≤ n ∧ i = .int .i64 k ∧ Ext w wr) (fun i _ => n - (intOf i).toNat)
  case atStart => exact ⟨0, Nat.zero_le _, rfl, Ext.refl _⟩
  case round =>
    obtain ⟨k, hk, rfl, hx⟩ := hrel
    by_cases hlt : k < n
    · have Hlt := hidA hlt
      have c0 : wr.cell? ⟨g, k, none⟩ = some (.bool (f k)) := by rw [(hg.ext hx).cell]; exact bools_get _ hlt
      have c1 : wr.cell? ⟨g', k, none⟩ = some (.bool (f k)) := by rw [(hg'.ext hx).cell]; exact bools_get _ hlt
      have k0 : (0 : Int) ≤ k := by omega
      have k1 : (k : Int) < n := by omega
      generalize f k = b at *
      go_upto_region 6 with fail
      go_quiet (fail)
      have hx2 := hidA (hx.trans (show Ext wr (wr.drewN nq) from (by repeat (first | exact Ext.refl _ | assumption | refine Ext.setCell ?_ (by first | (simp; done) | (simp; omega)) _ | refine Ext.drewN ?_ _ | refine Ext.alloc ?_ _ | refine Ext.drew ?_ | refine Ext.trans ?_ (by assumption)))))
      clear c0 c1
      generalize wr.drewN nq = w2 at *
      go_wp2
      go_roundw
      case rel => exact ⟨k + 1, Hlt.out, (by first | rfl | go_num), hx2.out⟩
      case measure => exact nxt_c Hlt.out
    · obtain rfl : k = n := by omega
      go_wp2
      go_ret
      exact ⟨rfl, hx⟩
set_option maxRecDepth 100000 in
set_option maxHeartbeats 12800000 in
theorem trips_bad (many src : Int) (A : Option Addr) (n c : Nat) (l : List RoR) (w : World) (hn : l.length = n) (hV : Rd w A (rocells l)) (hn4 : n ≤ 140737488355328) (hE : tripE many l src ≠ 0) :
    Calls Try.prog 10 #[.int .i64 many, .slice A n c, .int .i64 src] w fun e w' => e = .returned (.bool true) ∧ Ext w w' := by
  have HT := hidA (Trips_bad many src A n c l w hn hV hE)
  have HL := fun (w : World) => hidA (leads_any w)
  have HWh : ∀ (b : Bool) (k : Int) (w : World), Hid (Calls Try.prog 19 #[.bool b, .int .i64 k] w fun e w' => e = .returned (.int .i64 (whenI b k)) ∧ w = w') := fun b k w => hidA (when_any b k w)
  have HWi : ∀ (a b c : Int) (w : World), Hid (Calls Try.prog 35 #[.int .i64 a, .int .i64 b, .int .i64 c] w fun e w' => e = .returned (.bool (withI a b c)) ∧ w = w') := fun a b c w => hidA (within_any a b c w)
  have HS2 := fun (a b : Int) (B : Option Addr) (w : World) (h : Rd w B [.int .i64 a, .int .i64 b]) => hidA (first_any B 2 2 [a, b] w rfl h (by omega))
  have HS5 := fun (a b c d e : Int) (B : Option Addr) (w : World) (h : Rd w B [.int .i64 a, .int .i64 b, .int .i64 c, .int .i64 d, .int .i64 e]) => hidA (first_any B 5 5 [a, b, c, d, e] w rfl h (by omega))
  have HV := fun (w' : World) (h : Ext w w') => hidA (hV.ext h)
  have Hn := hidA hn
  obtain ⟨m1, hm1⟩ : ∃ m1, m1 = IntKind.i64.wrap (many - 1) := ⟨_, rfl⟩
  have hmm : 1 ≤ many → many ≤ 24 → m1 = many - 1 := fun h1 h2 => by rw [hm1]; exact IntWalk.i64_in _ ⟨by omega, by omega⟩
  have HJ0 := hidA (TJ.start many l)
  rw [hn] at HJ0
  have hw1 := hm1.symm
  have HTf := hidA (trip_first (src := src) (l := l) hmm)
  have Hmm := hidA hmm
  clear hn hV hmm hm1
  have hne : (tripE many l src != 0) = true := by simpa using hE
  obtain ⟨E, hEe⟩ : ∃ E, E = tripE many l src := ⟨_, rfl⟩
  rw [← hEe] at HT hne HTf
  clear hE hEe
  go_enter Try.func10, Try.ntmps10
  go_upto_region 2 with (go_at_call 44; refine (HT.out).mono ?_; rintro e w0 ⟨rfl, hx0⟩)
  clear HT
  go_upto_region 4 with (first | (go_at_call 35; refine ((HWi _ _ _ _).out).mono ?_; rintro e w7 ⟨rfl, hw7⟩; subst hw7) | (go_at_call 19; refine ((HWh _ _ _).out).mono ?_; rintro e w7 ⟨rfl, hw7⟩; subst hw7) | (go_at_call 17; refine ((HS2 _ _ _ _ (Rd.new (by first | rfl | simp) (by first | rfl | simp))).out).mono ?_; rintro e w8 ⟨rfl, hw8⟩; subst hw8))
  have hxa := hx0.alloc (.cells #[.int .i64 (whenI (!withI many 1 24) 3), .int .i64 (whenI (decide ((1000 : Int) < (n : Int))) 4)] 33)
  have Hsz := hidA (show w0.heap.size ≤ (w0.alloc (.cells #[.int .i64 (whenI (!withI many 1 24) 3), .int .i64 (whenI (decide ((1000 : Int) < (n : Int))) 4)] 33)).heap.size from by simp)
  clear hx0
  generalize w0.alloc (.cells #[.int .i64 (whenI (!withI many 1 24) 3), .int .i64 (whenI (decide ((1000 : Int) < (n : Int))) 4)] 33) = wa at *
  generalize (firstE [whenI (!withI many 1 24) 3, whenI (decide ((1000 : Int) < (n : Int))) 4]) = u0 at *
  go_loopw [10, 36] (fun s10 s36 wr => ∃ (i : Nat) (u : Int), i ≤ n ∧ s36 = .int .i64 i ∧ s10 = .int .i64 u ∧ TJ many l i u ∧ Ext wa wr) (fun _ s36 _ => n - (intOf s36).toNat)
  case atStart => exact ⟨0, u0, Nat.zero_le _, rfl, rfl, HJ0.out, Ext.refl _⟩
  case round =>
    clear HJ0
    obtain ⟨i, u, hi, rfl, rfl, hJ, hx⟩ := hrel
    by_cases hin : i < n
    · have Hin := hidA hin
      have hil : i < l.length := by have := Hn.out; omega
      obtain ⟨ad, rfl, hbk, d0, d1, d2, d3⟩ := ((HV _ (hxa.trans hx)).out).road hil
      have hJ2 := hJ.next hil Hmm.out
      obtain ⟨r, hr⟩ : ∃ r, r = l[i] := ⟨_, rfl⟩
      rw [← hr] at d0 d1 d2 d3 hJ2
      obtain ⟨a, b, wA, wn, wc, p⟩ := r
      dsimp only at d0 d1 d2 d3
      unfold roadU at hJ2
      dsimp only at hJ2
      have HJ2 := hidA hJ2
      have i0 : (0 : Int) ≤ i := by omega
      have i1 : (i : Int) < n := by omega
      have i2 : (n : Int) ≤ 140737488355328 := by omega
      clear hJ hJ2 hr hbk hi hin
      go_upto_region 6 with fail
      have kR : Bk (wr.alloc (.cells #[.int .i64 a, .int .i64 b, .slice wA wn wc, .float .f32 p] 87)) wr.heap.size 87 #[.int .i64 a, .int .i64 b, .slice wA wn wc, .float .f32 p] := Bk.new' rfl
      have hx1 := hx.alloc (.cells #[.int .i64 a, .int .i64 b, .slice wA wn wc, .float .f32 p] 87)
      clear d0 d1 d2 d3 hx
      generalize wr.alloc (.cells #[.int .i64 a, .int .i64 b, .slice wA wn wc, .float .f32 p] 87) = w1 at *
      generalize wr.heap.size = ha at *
      have r3 := kR.cell 3
      go_cut [13] (fun s13 wx => s13 = Value.bool (finB p) ∧ wx = w1)
      case first =>
        cases hf : finB p
        · rcases fin_cases hf with c1 | ⟨c1, c2⟩ | ⟨c1, c2, c3⟩
          all_goals
            go_wp2_with fail
            go_meet
            case rel => exact ⟨by rw [hf], rfl⟩
        · obtain ⟨c1, c2, c3⟩ := fin_parts hf
          go_wp2_with fail
          go_meet
          case rel => exact ⟨by rw [hf], rfl⟩
      case rest =>
        obtain ⟨rfl, rfl⟩ := hcut
        clear r3
        have r0 : ∀ w', Ext wc w' → w'.cell? ⟨ha, 0, none⟩ = some (.int .i64 a) := fun w' h => (kR.ext h).cell 0
        have r1 : ∀ w', Ext wc w' → w'.cell? ⟨ha, 1, none⟩ = some (.int .i64 b) := fun w' h => (kR.ext h).cell 1
        have r3 : ∀ w', Ext wc w' → w'.cell? ⟨ha, 3, none⟩ = some (.float .f32 p) := fun w' h => (kR.ext h).cell 3
        go_upto_region 7 with fail
        cases hwa : withI a 0 m1
        · have hwn : (!withI a 0 m1) = true := by rw [hwa]; rfl
          refine wp_region_noPanic ?_
          refine wp_region_held_drew (S := fun w' => Ext wc w') (by kernel_rfl) ?_ (fun hHeld => ?_)
          · (repeat (first | exact Ext.refl _ | assumption | refine Ext.setCell ?_ (by first | (simp; done) | (simp; omega)) _ | refine Ext.drewN ?_ _ | refine Ext.alloc ?_ _ | refine Ext.drew ?_ | refine Ext.trans ?_ (by assumption)))
          refine wpAnyH_take (i := 0) (oi := ?o1x0) (v := ?v1x0) ?hi1x0 (by kernel_rfl) ?hf1x0 ?hr1x0 (fun _ _ _ h => h) ?hy1x0 (by assumption) ?rest1x0
          case hi1x0 => (simp only [List.getElem?_toArray, List.getElem?_cons_zero]; exact rfl)
          case hf1x0 => kernel_rfl
          case hr1x0 => kernel_rfl
          case hy1x0 => (refine Or.inl ⟨by rfl, ?_⟩; intro w hSw; (try dsimp only at hSw); go_simp; try with_reducible rfl)
          simp only [put_mk, List.set_cons_succ, List.set_cons_zero]
          refine wpAnyH_take (i := 1) (oi := ?o1x1) (v := ?v1x1) ?hi1x1 (by kernel_rfl) ?hf1x1 ?hr1x1 (fun _ _ _ h => h) ?hy1x1 (by assumption) ?rest1x1
          case hi1x1 => (simp only [List.getElem?_toArray, List.getElem?_cons_succ, List.getElem?_cons_zero]; exact rfl)
          case hf1x1 => kernel_rfl
          case hr1x1 => kernel_rfl
          case hy1x1 => (refine Or.inl ⟨by rfl, ?_⟩; intro w hSw; (try dsimp only at hSw); go_simp; try with_reducible rfl)
          simp only [put_mk, List.set_cons_succ, List.set_cons_zero]
          refine wpAnyH_take (i := 2) (oi := ?o1x2) (v := ?v1x2) ?hi1x2 (by kernel_rfl) ?hf1x2 ?hr1x2 (fun _ _ _ h => h) ?hy1x2 (by assumption) ?rest1x2
          case hi1x2 => (simp only [List.getElem?_toArray, List.getElem?_cons_succ, List.getElem?_cons_zero]; exact rfl)
          case hf1x2 => kernel_rfl
          case hr1x2 => kernel_rfl
          case hy1x2 => (refine Or.inl ⟨by rfl, ?_⟩; intro w hSw; (try dsimp only at hSw); go_simp; try with_reducible rfl)
          simp only [put_mk, List.set_cons_succ, List.set_cons_zero]
          refine wpAnyH_take (i := 3) (oi := ?o1x3) (v := ?v1x3) ?hi1x3 (by kernel_rfl) ?hf1x3 ?hr1x3 (fun _ _ _ h => h) ?hy1x3 (by assumption) ?rest1x3
          case hi1x3 => (simp only [List.getElem?_toArray, List.getElem?_cons_succ, List.getElem?_cons_zero]; exact rfl)
          case hf1x3 => kernel_rfl
          case hr1x3 => kernel_rfl
          case hy1x3 => (refine Or.inl ⟨by rfl, ?_⟩; intro w hSw; (try dsimp only at hSw); go_simp; try with_reducible rfl)
          simp only [put_mk, List.set_cons_succ, List.set_cons_zero]
          refine wpAnyH_take (i := 4) (oi := ?o1x4) (v := ?v1x4) ?hi1x4 (by kernel_rfl) ?hf1x4 ?hr1x4 (fun _ _ _ h => h) ?hy1x4 (by assumption) ?rest1x4
          case hi1x4 => (simp only [List.getElem?_toArray, List.getElem?_cons_succ, List.getElem?_cons_zero]; exact rfl)
          case hf1x4 => kernel_rfl
          case hr1x4 => kernel_rfl
          case hy1x4 => (refine Or.inl ⟨by rfl, ?_⟩; intro w hSw; (try dsimp only at hSw); go_simp; try with_reducible rfl)
          simp only [put_mk, List.set_cons_succ, List.set_cons_zero]
          refine wpAnyH_take (i := 16) (oi := ?o1x16) (v := ?v1x16) ?hi1x16 (by kernel_rfl) ?hf1x16 ?hr1x16 (fun _ _ _ h => h) ?hy1x16 (by assumption) ?rest1x16
          case hi1x16 => (simp only [List.getElem?_toArray, List.getElem?_cons_succ, List.getElem?_cons_zero]; exact rfl)
          case hf1x16 => kernel_rfl
          case hr1x16 => kernel_rfl
          case hy1x16 => (refine Or.inl ⟨by rfl, ?_⟩; intro w hSw; (try dsimp only at hSw); go_simp; try with_reducible rfl)
          simp only [put_mk, List.set_cons_succ, List.set_cons_zero]
          refine wpAnyH_take (i := 17) (oi := ?o1x17) (v := ?v1x17) ?hi1x17 (by kernel_rfl) ?hf1x17 ?hr1x17 (fun _ _ _ h => h) ?hy1x17 (by assumption) ?rest1x17
          case hi1x17 => (simp only [List.getElem?_toArray, List.getElem?_cons_succ, List.getElem?_cons_zero]; exact rfl)
          case hf1x17 => kernel_rfl
          case hr1x17 => kernel_rfl
          case hy1x17 => (refine Or.inl ⟨by rfl, ?_⟩; intro w hSw; (try dsimp only at hSw); go_simp; try with_reducible rfl)
          simp only [put_mk, List.set_cons_succ, List.set_cons_zero]
          refine wpAnyH_take (i := 18) (oi := ?o1x18) (v := ?v1x18) ?hi1x18 (by kernel_rfl) ?hf1x18 ?hr1x18 (fun _ _ _ h => h) ?hy1x18 (by assumption) ?rest1x18
          case hi1x18 => (simp only [List.getElem?_toArray, List.getElem?_cons_succ, List.getElem?_cons_zero]; exact rfl)
          case hf1x18 => kernel_rfl
          case hr1x18 => kernel_rfl
          case hy1x18 => (refine Or.inl ⟨by rfl, ?_⟩; intro w hSw; (try dsimp only at hSw); go_simp; try with_reducible rfl)
          simp only [put_mk, List.set_cons_succ, List.set_cons_zero]
          refine wpAnyH_take (i := 19) (oi := ?o1x19) (v := ?v1x19) ?hi1x19 (by kernel_rfl) ?hf1x19 ?hr1x19 (fun _ _ _ h => h) ?hy1x19 (by assumption) ?rest1x19
          case hi1x19 => (simp only [List.getElem?_toArray, List.getElem?_cons_succ, List.getElem?_cons_zero]; exact rfl)
          case hf1x19 => kernel_rfl
          case hr1x19 => kernel_rfl
          case hy1x19 => (refine Or.inl ⟨by rfl, ?_⟩; intro w hSw; (try dsimp only at hSw); go_simp; try with_reducible rfl)
          simp only [put_mk, List.set_cons_succ, List.set_cons_zero]
          refine wpAnyH_take (i := 20) (oi := ?o1x20) (v := ?v1x20) ?hi1x20 (by kernel_rfl) ?hf1x20 ?hr1x20 (fun _ _ _ h => h) ?hy1x20 (by assumption) ?rest1x20
          case hi1x20 => (simp only [List.getElem?_toArray, List.getElem?_cons_succ, List.getElem?_cons_zero]; exact rfl)
          case hf1x20 => kernel_rfl
          case hr1x20 => kernel_rfl
          case hy1x20 => (refine Or.inl ⟨by rfl, ?_⟩; intro w hSw; (try dsimp only at hSw); go_simp; try with_reducible rfl)
          simp only [put_mk, List.set_cons_succ, List.set_cons_zero]
          refine wpAnyH_take (i := 22) (oi := ?o1x22) (v := ?v1x22) ?hi1x22 (by kernel_rfl) ?hf1x22 ?hr1x22 (fun _ _ _ h => h) ?hy1x22 (by assumption) ?rest1x22
          case hi1x22 => (simp only [List.getElem?_toArray, List.getElem?_cons_succ, List.getElem?_cons_zero]; exact rfl)
          case hf1x22 => kernel_rfl
          case hr1x22 => kernel_rfl
          case hy1x22 => (refine Or.inl ⟨by rfl, ?_⟩; intro w hSw; (try dsimp only at hSw); go_simp; try with_reducible rfl)
          simp only [put_mk, List.set_cons_succ, List.set_cons_zero]
          refine wpAnyH_take (i := 23) (oi := ?o1x23) (v := ?v1x23) ?hi1x23 (by kernel_rfl) ?hf1x23 ?hr1x23 (fun _ _ _ h => h) ?hy1x23 (by assumption) ?rest1x23
          case hi1x23 => (simp only [List.getElem?_toArray, List.getElem?_cons_succ, List.getElem?_cons_zero]; exact rfl)
          case hf1x23 => kernel_rfl
          case hr1x23 => kernel_rfl
          case hy1x23 => (refine Or.inl ⟨by rfl, ?_⟩; intro w hSw; (try dsimp only at hSw); go_simp; try with_reducible rfl)
          simp only [put_mk, List.set_cons_succ, List.set_cons_zero]
          refine wpAnyH_take (i := 25) (oi := ?o1x25) (v := ?v1x25) ?hi1x25 (by kernel_rfl) ?hf1x25 ?hr1x25 (fun _ _ _ h => h) ?hy1x25 (by assumption) ?rest1x25
          case hi1x25 => (simp only [List.getElem?_toArray, List.getElem?_cons_succ, List.getElem?_cons_zero]; exact rfl)
          case hf1x25 => kernel_rfl
          case hr1x25 => kernel_rfl
          case hy1x25 => (refine Or.inl ⟨by rfl, ?_⟩; intro w hSw; (try dsimp only at hSw); go_simp; try with_reducible rfl)
          simp only [put_mk, List.set_cons_succ, List.set_cons_zero]
          refine wpAnyH_take (i := 26) (oi := ?o1x26) (v := ?v1x26) ?hi1x26 (by kernel_rfl) ?hf1x26 ?hr1x26 (fun _ _ _ h => h) ?hy1x26 (by assumption) ?rest1x26
          case hi1x26 => (simp only [List.getElem?_toArray, List.getElem?_cons_succ, List.getElem?_cons_zero]; exact rfl)
          case hf1x26 => kernel_rfl
          case hr1x26 => kernel_rfl
          case hy1x26 => (refine Or.inl ⟨by rfl, ?_⟩; intro w hSw; (try dsimp only at hSw); go_simp; try with_reducible rfl)
          simp only [put_mk, List.set_cons_succ, List.set_cons_zero]
          refine wpAnyH_take (i := 27) (oi := ?o1x27) (v := ?v1x27) ?hi1x27 (by kernel_rfl) ?hf1x27 ?hr1x27 (fun _ _ _ h => h) ?hy1x27 (by assumption) ?rest1x27
          case hi1x27 => (simp only [List.getElem?_toArray, List.getElem?_cons_succ, List.getElem?_cons_zero]; exact rfl)
          case hf1x27 => kernel_rfl
          case hr1x27 => kernel_rfl
          case hy1x27 => (refine Or.inl ⟨by rfl, ?_⟩; intro w hSw; (try dsimp only at hSw); go_simp; try with_reducible rfl)
          simp only [put_mk, List.set_cons_succ, List.set_cons_zero]
          refine wpAnyH_ready (rs := [5]) (by kernel_rfl) (by simp) ?_
          refine AllReadyH.cons (o := ?o1x5) ?hi1x5 (fun K hK => ?_) AllReadyH.nil
          case hi1x5 => (simp only [List.getElem?_toArray, List.getElem?_cons_succ, List.getElem?_cons_zero]; exact rfl)
          go_simp
          go_at_call 35
          refine ((HWi _ _ _ _).out).mono ?_
          rintro e wz ⟨rfl, hwz⟩
          subst wz
          refine hK.out _ _ ?_ (fun hHeld => ?_)
          · (repeat (first | exact Ext.refl _ | assumption | refine Ext.setCell ?_ (by first | (simp; done) | (simp; omega)) _ | refine Ext.drewN ?_ _ | refine Ext.alloc ?_ _ | refine Ext.drew ?_ | refine Ext.trans ?_ (by assumption)))
          clear hK K
          refine wpAnyH_take (i := 6) (oi := ?o1x6) (v := ?v1x6) ?hi1x6 (by kernel_rfl) ?hf1x6 ?hr1x6 (fun _ _ _ h => h) ?hy1x6 (by assumption) ?rest1x6
          case hi1x6 => (simp only [List.getElem?_toArray, List.getElem?_cons_succ, List.getElem?_cons_zero]; exact rfl)
          case hf1x6 => kernel_rfl
          case hr1x6 => kernel_rfl
          case hy1x6 => (refine Or.inl ⟨by rfl, ?_⟩; intro w hSw; (try dsimp only at hSw); go_simp; try with_reducible rfl)
          simp only [put_mk, List.set_cons_succ, List.set_cons_zero]
          refine wpAnyH_take (i := 7) (oi := ?o1x7) (v := ?v1x7) ?hi1x7 (by kernel_rfl) ?hf1x7 ?hr1x7 (fun _ _ _ h => h) ?hy1x7 (by assumption) ?rest1x7
          case hi1x7 => (simp only [List.getElem?_toArray, List.getElem?_cons_succ, List.getElem?_cons_zero]; exact rfl)
          case hf1x7 => kernel_rfl
          case hr1x7 => kernel_rfl
          case hy1x7 => (refine Or.inl ⟨by rfl, ?_⟩; intro w hSw; (try dsimp only at hSw); go_simp; try with_reducible rfl)
          simp only [put_mk, List.set_cons_succ, List.set_cons_zero]
          refine wpAnyH_take (i := 8) (oi := ?o1x8) (v := undef) ?hi1x8 (by kernel_rfl) ?hf1x8 ?hr1x8 (fun _ _ _ h => h) ?hy1x8 (by assumption) ?rest1x8
          case hi1x8 => (simp only [List.getElem?_toArray, List.getElem?_cons_succ, List.getElem?_cons_zero]; exact rfl)
          case hf1x8 => kernel_rfl
          case hr1x8 => kernel_rfl
          case hy1x8 => exact Or.inr ⟨by rfl, rfl⟩
          simp only [put_mk, List.set_cons_succ, List.set_cons_zero]
          refine wpAnyH_take (i := 9) (oi := ?o1x9) (v := undef) ?hi1x9 (by kernel_rfl) ?hf1x9 ?hr1x9 (fun _ _ _ h => h) ?hy1x9 (by assumption) ?rest1x9
          case hi1x9 => (simp only [List.getElem?_toArray, List.getElem?_cons_succ, List.getElem?_cons_zero]; exact rfl)
          case hf1x9 => kernel_rfl
          case hr1x9 => kernel_rfl
          case hy1x9 => exact Or.inr ⟨by rfl, rfl⟩
          simp only [put_mk, List.set_cons_succ, List.set_cons_zero]
          refine wpAnyH_take (i := 10) (oi := ?o1x10) (v := undef) ?hi1x10 (by kernel_rfl) ?hf1x10 ?hr1x10 (fun _ _ _ h => h) ?hy1x10 (by assumption) ?rest1x10
          case hi1x10 => (simp only [List.getElem?_toArray, List.getElem?_cons_succ, List.getElem?_cons_zero]; exact rfl)
          case hf1x10 => kernel_rfl
          case hr1x10 => kernel_rfl
          case hy1x10 => exact Or.inr ⟨by rfl, rfl⟩
          simp only [put_mk, List.set_cons_succ, List.set_cons_zero]
          refine wpAnyH_take (i := 11) (oi := ?o1x11) (v := undef) ?hi1x11 (by kernel_rfl) ?hf1x11 ?hr1x11 (fun _ _ _ h => h) ?hy1x11 (by assumption) ?rest1x11
          case hi1x11 => (simp only [List.getElem?_toArray, List.getElem?_cons_succ, List.getElem?_cons_zero]; exact rfl)
          case hf1x11 => kernel_rfl
          case hr1x11 => kernel_rfl
          case hy1x11 => exact Or.inr ⟨by rfl, rfl⟩
          simp only [put_mk, List.set_cons_succ, List.set_cons_zero]
          refine wpAnyH_take (i := 12) (oi := ?o1x12) (v := undef) ?hi1x12 (by kernel_rfl) ?hf1x12 ?hr1x12 (fun _ _ _ h => h) ?hy1x12 (by assumption) ?rest1x12
          case hi1x12 => (simp only [List.getElem?_toArray, List.getElem?_cons_succ, List.getElem?_cons_zero]; exact rfl)
          case hf1x12 => kernel_rfl
          case hr1x12 => kernel_rfl
          case hy1x12 => exact Or.inr ⟨by rfl, rfl⟩
          simp only [put_mk, List.set_cons_succ, List.set_cons_zero]
          refine wpAnyH_take (i := 13) (oi := ?o1x13) (v := undef) ?hi1x13 (by kernel_rfl) ?hf1x13 ?hr1x13 (fun _ _ _ h => h) ?hy1x13 (by assumption) ?rest1x13
          case hi1x13 => (simp only [List.getElem?_toArray, List.getElem?_cons_succ, List.getElem?_cons_zero]; exact rfl)
          case hf1x13 => kernel_rfl
          case hr1x13 => kernel_rfl
          case hy1x13 => exact Or.inr ⟨by rfl, rfl⟩
          simp only [put_mk, List.set_cons_succ, List.set_cons_zero]
          refine wpAnyH_take (i := 14) (oi := ?o1x14) (v := ?v1x14) ?hi1x14 (by kernel_rfl) ?hf1x14 ?hr1x14 (fun _ _ _ h => h) ?hy1x14 (by assumption) ?rest1x14
          case hi1x14 => (simp only [List.getElem?_toArray, List.getElem?_cons_succ, List.getElem?_cons_zero]; exact rfl)
          case hf1x14 => kernel_rfl
          case hr1x14 => kernel_rfl
          case hy1x14 => (refine Or.inl ⟨by rfl, ?_⟩; intro w hSw; (try dsimp only at hSw); go_simp; try with_reducible rfl)
          simp only [put_mk, List.set_cons_succ, List.set_cons_zero]
          refine wpAnyH_ready (rs := [15]) (by kernel_rfl) (by simp) ?_
          refine AllReadyH.cons (o := ?o1x15) ?hi1x15 (fun K hK => ?_) AllReadyH.nil
          case hi1x15 => (simp only [List.getElem?_toArray, List.getElem?_cons_succ, List.getElem?_cons_zero]; exact rfl)
          go_simp
          go_at_call 19
          refine ((HWh _ _ _).out).mono ?_
          rintro e wz ⟨rfl, hwz⟩
          subst wz
          refine hK.out _ _ ?_ (fun hHeld => ?_)
          · (repeat (first | exact Ext.refl _ | assumption | refine Ext.setCell ?_ (by first | (simp; done) | (simp; omega)) _ | refine Ext.drewN ?_ _ | refine Ext.alloc ?_ _ | refine Ext.drew ?_ | refine Ext.trans ?_ (by assumption)))
          clear hK K
          refine wpAnyH_ready (rs := [21]) (by kernel_rfl) (by simp) ?_
          refine AllReadyH.cons (o := ?o1x21) ?hi1x21 (fun K hK => ?_) AllReadyH.nil
          case hi1x21 => (simp only [List.getElem?_toArray, List.getElem?_cons_succ, List.getElem?_cons_zero]; exact rfl)
          go_simp
          go_at_call 19
          refine ((HWh _ _ _).out).mono ?_
          rintro e wz ⟨rfl, hwz⟩
          subst wz
          refine hK.out _ _ ?_ (fun hHeld => ?_)
          · (repeat (first | exact Ext.refl _ | assumption | refine Ext.setCell ?_ (by first | (simp; done) | (simp; omega)) _ | refine Ext.drewN ?_ _ | refine Ext.alloc ?_ _ | refine Ext.drew ?_ | refine Ext.trans ?_ (by assumption)))
          clear hK K
          refine wpAnyH_ready (rs := [24]) (by kernel_rfl) (by simp) ?_
          refine AllReadyH.cons (o := ?o1x24) ?hi1x24 (fun K hK => ?_) AllReadyH.nil
          case hi1x24 => (simp only [List.getElem?_toArray, List.getElem?_cons_succ, List.getElem?_cons_zero]; exact rfl)
          go_simp
          go_at_call 19
          refine ((HWh _ _ _).out).mono ?_
          rintro e wz ⟨rfl, hwz⟩
          subst wz
          refine hK.out _ _ ?_ (fun hHeld => ?_)
          · (repeat (first | exact Ext.refl _ | assumption | refine Ext.setCell ?_ (by first | (simp; done) | (simp; omega)) _ | refine Ext.drewN ?_ _ | refine Ext.alloc ?_ _ | refine Ext.drew ?_ | refine Ext.trans ?_ (by assumption)))
          clear hK K
          refine wpAnyH_ready (rs := [28]) (by kernel_rfl) (by simp) ?_
          refine AllReadyH.cons (o := ?o1x28) ?hi1x28 (fun K hK => ?_) AllReadyH.nil
          case hi1x28 => (simp only [List.getElem?_toArray, List.getElem?_cons_succ, List.getElem?_cons_zero]; exact rfl)
          go_simp
          go_at_call 19
          refine ((HWh _ _ _).out).mono ?_
          rintro e wz ⟨rfl, hwz⟩
          subst wz
          refine hK.out _ _ ?_ (fun hHeld => ?_)
          · (repeat (first | exact Ext.refl _ | assumption | refine Ext.setCell ?_ (by first | (simp; done) | (simp; omega)) _ | refine Ext.drewN ?_ _ | refine Ext.alloc ?_ _ | refine Ext.drew ?_ | refine Ext.trans ?_ (by assumption)))
          clear hK K
          refine wpAnyH_ready (rs := [29]) (by kernel_rfl) (by simp) ?_
          refine AllReadyH.cons (o := ?o1x29) ?hi1x29 (fun K hK => ?_) AllReadyH.nil
          case hi1x29 => (simp only [List.getElem?_toArray, List.getElem?_cons_succ, List.getElem?_cons_zero]; exact rfl)
          go_simp
          refine hK.out _ _ ?_ (fun hHeld => ?_)
          · (repeat (first | exact Ext.refl _ | assumption | refine Ext.setCell ?_ (by first | (simp; done) | (simp; omega)) _ | refine Ext.drewN ?_ _ | refine Ext.alloc ?_ _ | refine Ext.drew ?_ | refine Ext.trans ?_ (by assumption)))
          clear hK K
          refine wpAnyH_ready (rs := [30]) (by kernel_rfl) (by simp) ?_
          refine AllReadyH.cons (o := ?o1x30) ?hi1x30 (fun K hK => ?_) AllReadyH.nil
          case hi1x30 => (simp only [List.getElem?_toArray, List.getElem?_cons_succ, List.getElem?_cons_zero]; exact rfl)
          go_simp
          go_at_call 17
          refine ((HS5 _ _ _ _ _ _ _ ((Rd.new (by first | rfl | simp) (by first | rfl | simp)).ext (Ext.drew (Ext.refl _)))).out).mono ?_
          rintro e wz ⟨rfl, hwz⟩
          subst wz
          refine hK.out _ _ ?_ (fun hHeld => ?_)
          · (repeat (first | exact Ext.refl _ | assumption | refine Ext.setCell ?_ (by first | (simp; done) | (simp; omega)) _ | refine Ext.drewN ?_ _ | refine Ext.alloc ?_ _ | refine Ext.drew ?_ | refine Ext.trans ?_ (by assumption)))
          clear hK K
          refine wpAnyH_take (i := 31) (oi := ?o1x31) (v := ?v1x31) ?hi1x31 (by kernel_rfl) ?hf1x31 ?hr1x31 (fun _ _ _ h => h) ?hy1x31 (by assumption) ?rest1x31
          case hi1x31 => (simp only [List.getElem?_toArray, List.getElem?_cons_succ, List.getElem?_cons_zero]; exact rfl)
          case hf1x31 => kernel_rfl
          case hr1x31 => kernel_rfl
          case hy1x31 => (refine Or.inl ⟨by rfl, ?_⟩; intro w hSw; (try dsimp only at hSw); go_simp; try with_reducible rfl)
          simp only [put_mk, List.set_cons_succ, List.set_cons_zero]
          refine wpAnyH_done (by kernel_rfl) ?_ _
          refine NoPanic.normal ?_
          have hend := hidA (hx1.trans hHeld)
          rw [hwa] at HJ2
          clear hx1 hHeld r0 r1 r3 kR
          go_wp2
          go_roundw
          case rel => exact ⟨i + 1, _, Hin.out, (by first | rfl | go_num), rfl, HJ2.out, hend.out⟩
          case measure => exact nxt_c Hin.out
        · have hwn : (!withI a 0 m1) = false := by rw [hwa]; rfl
          refine wp_region_noPanic ?_
          refine wp_region_held_drew (S := fun w' => Ext wc w') (by kernel_rfl) ?_ (fun hHeld => ?_)
          · (repeat (first | exact Ext.refl _ | assumption | refine Ext.setCell ?_ (by first | (simp; done) | (simp; omega)) _ | refine Ext.drewN ?_ _ | refine Ext.alloc ?_ _ | refine Ext.drew ?_ | refine Ext.trans ?_ (by assumption)))
          refine wpAnyH_take (i := 0) (oi := ?o2x0) (v := ?v2x0) ?hi2x0 (by kernel_rfl) ?hf2x0 ?hr2x0 (fun _ _ _ h => h) ?hy2x0 (by assumption) ?rest2x0
          case hi2x0 => (simp only [List.getElem?_toArray, List.getElem?_cons_zero]; exact rfl)
          case hf2x0 => kernel_rfl
          case hr2x0 => kernel_rfl
          case hy2x0 => (refine Or.inl ⟨by rfl, ?_⟩; intro w hSw; (try dsimp only at hSw); go_simp; try with_reducible rfl)
          simp only [put_mk, List.set_cons_succ, List.set_cons_zero]
          refine wpAnyH_take (i := 1) (oi := ?o2x1) (v := ?v2x1) ?hi2x1 (by kernel_rfl) ?hf2x1 ?hr2x1 (fun _ _ _ h => h) ?hy2x1 (by assumption) ?rest2x1
          case hi2x1 => (simp only [List.getElem?_toArray, List.getElem?_cons_succ, List.getElem?_cons_zero]; exact rfl)
          case hf2x1 => kernel_rfl
          case hr2x1 => kernel_rfl
          case hy2x1 => (refine Or.inl ⟨by rfl, ?_⟩; intro w hSw; (try dsimp only at hSw); go_simp; try with_reducible rfl)
          simp only [put_mk, List.set_cons_succ, List.set_cons_zero]
          refine wpAnyH_take (i := 2) (oi := ?o2x2) (v := ?v2x2) ?hi2x2 (by kernel_rfl) ?hf2x2 ?hr2x2 (fun _ _ _ h => h) ?hy2x2 (by assumption) ?rest2x2
          case hi2x2 => (simp only [List.getElem?_toArray, List.getElem?_cons_succ, List.getElem?_cons_zero]; exact rfl)
          case hf2x2 => kernel_rfl
          case hr2x2 => kernel_rfl
          case hy2x2 => (refine Or.inl ⟨by rfl, ?_⟩; intro w hSw; (try dsimp only at hSw); go_simp; try with_reducible rfl)
          simp only [put_mk, List.set_cons_succ, List.set_cons_zero]
          refine wpAnyH_take (i := 3) (oi := ?o2x3) (v := ?v2x3) ?hi2x3 (by kernel_rfl) ?hf2x3 ?hr2x3 (fun _ _ _ h => h) ?hy2x3 (by assumption) ?rest2x3
          case hi2x3 => (simp only [List.getElem?_toArray, List.getElem?_cons_succ, List.getElem?_cons_zero]; exact rfl)
          case hf2x3 => kernel_rfl
          case hr2x3 => kernel_rfl
          case hy2x3 => (refine Or.inl ⟨by rfl, ?_⟩; intro w hSw; (try dsimp only at hSw); go_simp; try with_reducible rfl)
          simp only [put_mk, List.set_cons_succ, List.set_cons_zero]
          refine wpAnyH_take (i := 4) (oi := ?o2x4) (v := ?v2x4) ?hi2x4 (by kernel_rfl) ?hf2x4 ?hr2x4 (fun _ _ _ h => h) ?hy2x4 (by assumption) ?rest2x4
          case hi2x4 => (simp only [List.getElem?_toArray, List.getElem?_cons_succ, List.getElem?_cons_zero]; exact rfl)
          case hf2x4 => kernel_rfl
          case hr2x4 => kernel_rfl
          case hy2x4 => (refine Or.inl ⟨by rfl, ?_⟩; intro w hSw; (try dsimp only at hSw); go_simp; try with_reducible rfl)
          simp only [put_mk, List.set_cons_succ, List.set_cons_zero]
          refine wpAnyH_take (i := 16) (oi := ?o2x16) (v := ?v2x16) ?hi2x16 (by kernel_rfl) ?hf2x16 ?hr2x16 (fun _ _ _ h => h) ?hy2x16 (by assumption) ?rest2x16
          case hi2x16 => (simp only [List.getElem?_toArray, List.getElem?_cons_succ, List.getElem?_cons_zero]; exact rfl)
          case hf2x16 => kernel_rfl
          case hr2x16 => kernel_rfl
          case hy2x16 => (refine Or.inl ⟨by rfl, ?_⟩; intro w hSw; (try dsimp only at hSw); go_simp; try with_reducible rfl)
          simp only [put_mk, List.set_cons_succ, List.set_cons_zero]
          refine wpAnyH_take (i := 17) (oi := ?o2x17) (v := ?v2x17) ?hi2x17 (by kernel_rfl) ?hf2x17 ?hr2x17 (fun _ _ _ h => h) ?hy2x17 (by assumption) ?rest2x17
          case hi2x17 => (simp only [List.getElem?_toArray, List.getElem?_cons_succ, List.getElem?_cons_zero]; exact rfl)
          case hf2x17 => kernel_rfl
          case hr2x17 => kernel_rfl
          case hy2x17 => (refine Or.inl ⟨by rfl, ?_⟩; intro w hSw; (try dsimp only at hSw); go_simp; try with_reducible rfl)
          simp only [put_mk, List.set_cons_succ, List.set_cons_zero]
          refine wpAnyH_take (i := 18) (oi := ?o2x18) (v := ?v2x18) ?hi2x18 (by kernel_rfl) ?hf2x18 ?hr2x18 (fun _ _ _ h => h) ?hy2x18 (by assumption) ?rest2x18
          case hi2x18 => (simp only [List.getElem?_toArray, List.getElem?_cons_succ, List.getElem?_cons_zero]; exact rfl)
          case hf2x18 => kernel_rfl
          case hr2x18 => kernel_rfl
          case hy2x18 => (refine Or.inl ⟨by rfl, ?_⟩; intro w hSw; (try dsimp only at hSw); go_simp; try with_reducible rfl)
          simp only [put_mk, List.set_cons_succ, List.set_cons_zero]
          refine wpAnyH_take (i := 19) (oi := ?o2x19) (v := ?v2x19) ?hi2x19 (by kernel_rfl) ?hf2x19 ?hr2x19 (fun _ _ _ h => h) ?hy2x19 (by assumption) ?rest2x19
          case hi2x19 => (simp only [List.getElem?_toArray, List.getElem?_cons_succ, List.getElem?_cons_zero]; exact rfl)
          case hf2x19 => kernel_rfl
          case hr2x19 => kernel_rfl
          case hy2x19 => (refine Or.inl ⟨by rfl, ?_⟩; intro w hSw; (try dsimp only at hSw); go_simp; try with_reducible rfl)
          simp only [put_mk, List.set_cons_succ, List.set_cons_zero]
          refine wpAnyH_take (i := 20) (oi := ?o2x20) (v := ?v2x20) ?hi2x20 (by kernel_rfl) ?hf2x20 ?hr2x20 (fun _ _ _ h => h) ?hy2x20 (by assumption) ?rest2x20
          case hi2x20 => (simp only [List.getElem?_toArray, List.getElem?_cons_succ, List.getElem?_cons_zero]; exact rfl)
          case hf2x20 => kernel_rfl
          case hr2x20 => kernel_rfl
          case hy2x20 => (refine Or.inl ⟨by rfl, ?_⟩; intro w hSw; (try dsimp only at hSw); go_simp; try with_reducible rfl)
          simp only [put_mk, List.set_cons_succ, List.set_cons_zero]
          refine wpAnyH_take (i := 22) (oi := ?o2x22) (v := ?v2x22) ?hi2x22 (by kernel_rfl) ?hf2x22 ?hr2x22 (fun _ _ _ h => h) ?hy2x22 (by assumption) ?rest2x22
          case hi2x22 => (simp only [List.getElem?_toArray, List.getElem?_cons_succ, List.getElem?_cons_zero]; exact rfl)
          case hf2x22 => kernel_rfl
          case hr2x22 => kernel_rfl
          case hy2x22 => (refine Or.inl ⟨by rfl, ?_⟩; intro w hSw; (try dsimp only at hSw); go_simp; try with_reducible rfl)
          simp only [put_mk, List.set_cons_succ, List.set_cons_zero]
          refine wpAnyH_take (i := 23) (oi := ?o2x23) (v := ?v2x23) ?hi2x23 (by kernel_rfl) ?hf2x23 ?hr2x23 (fun _ _ _ h => h) ?hy2x23 (by assumption) ?rest2x23
          case hi2x23 => (simp only [List.getElem?_toArray, List.getElem?_cons_succ, List.getElem?_cons_zero]; exact rfl)
          case hf2x23 => kernel_rfl
          case hr2x23 => kernel_rfl
          case hy2x23 => (refine Or.inl ⟨by rfl, ?_⟩; intro w hSw; (try dsimp only at hSw); go_simp; try with_reducible rfl)
          simp only [put_mk, List.set_cons_succ, List.set_cons_zero]
          refine wpAnyH_take (i := 25) (oi := ?o2x25) (v := ?v2x25) ?hi2x25 (by kernel_rfl) ?hf2x25 ?hr2x25 (fun _ _ _ h => h) ?hy2x25 (by assumption) ?rest2x25
          case hi2x25 => (simp only [List.getElem?_toArray, List.getElem?_cons_succ, List.getElem?_cons_zero]; exact rfl)
          case hf2x25 => kernel_rfl
          case hr2x25 => kernel_rfl
          case hy2x25 => (refine Or.inl ⟨by rfl, ?_⟩; intro w hSw; (try dsimp only at hSw); go_simp; try with_reducible rfl)
          simp only [put_mk, List.set_cons_succ, List.set_cons_zero]
          refine wpAnyH_take (i := 26) (oi := ?o2x26) (v := ?v2x26) ?hi2x26 (by kernel_rfl) ?hf2x26 ?hr2x26 (fun _ _ _ h => h) ?hy2x26 (by assumption) ?rest2x26
          case hi2x26 => (simp only [List.getElem?_toArray, List.getElem?_cons_succ, List.getElem?_cons_zero]; exact rfl)
          case hf2x26 => kernel_rfl
          case hr2x26 => kernel_rfl
          case hy2x26 => (refine Or.inl ⟨by rfl, ?_⟩; intro w hSw; (try dsimp only at hSw); go_simp; try with_reducible rfl)
          simp only [put_mk, List.set_cons_succ, List.set_cons_zero]
          refine wpAnyH_take (i := 27) (oi := ?o2x27) (v := ?v2x27) ?hi2x27 (by kernel_rfl) ?hf2x27 ?hr2x27 (fun _ _ _ h => h) ?hy2x27 (by assumption) ?rest2x27
          case hi2x27 => (simp only [List.getElem?_toArray, List.getElem?_cons_succ, List.getElem?_cons_zero]; exact rfl)
          case hf2x27 => kernel_rfl
          case hr2x27 => kernel_rfl
          case hy2x27 => (refine Or.inl ⟨by rfl, ?_⟩; intro w hSw; (try dsimp only at hSw); go_simp; try with_reducible rfl)
          simp only [put_mk, List.set_cons_succ, List.set_cons_zero]
          refine wpAnyH_ready (rs := [5]) (by kernel_rfl) (by simp) ?_
          refine AllReadyH.cons (o := ?o2x5) ?hi2x5 (fun K hK => ?_) AllReadyH.nil
          case hi2x5 => (simp only [List.getElem?_toArray, List.getElem?_cons_succ, List.getElem?_cons_zero]; exact rfl)
          go_simp
          go_at_call 35
          refine ((HWi _ _ _ _).out).mono ?_
          rintro e wz ⟨rfl, hwz⟩
          subst wz
          refine hK.out _ _ ?_ (fun hHeld => ?_)
          · (repeat (first | exact Ext.refl _ | assumption | refine Ext.setCell ?_ (by first | (simp; done) | (simp; omega)) _ | refine Ext.drewN ?_ _ | refine Ext.alloc ?_ _ | refine Ext.drew ?_ | refine Ext.trans ?_ (by assumption)))
          clear hK K
          refine wpAnyH_take (i := 6) (oi := ?o2x6) (v := ?v2x6) ?hi2x6 (by kernel_rfl) ?hf2x6 ?hr2x6 (fun _ _ _ h => h) ?hy2x6 (by assumption) ?rest2x6
          case hi2x6 => (simp only [List.getElem?_toArray, List.getElem?_cons_succ, List.getElem?_cons_zero]; exact rfl)
          case hf2x6 => kernel_rfl
          case hr2x6 => kernel_rfl
          case hy2x6 => (refine Or.inl ⟨by rfl, ?_⟩; intro w hSw; (try dsimp only at hSw); go_simp; try with_reducible rfl)
          simp only [put_mk, List.set_cons_succ, List.set_cons_zero]
          refine wpAnyH_take (i := 7) (oi := ?o2x7) (v := ?v2x7) ?hi2x7 (by kernel_rfl) ?hf2x7 ?hr2x7 (fun _ _ _ h => h) ?hy2x7 (by assumption) ?rest2x7
          case hi2x7 => (simp only [List.getElem?_toArray, List.getElem?_cons_succ, List.getElem?_cons_zero]; exact rfl)
          case hf2x7 => kernel_rfl
          case hr2x7 => kernel_rfl
          case hy2x7 => (refine Or.inl ⟨by rfl, ?_⟩; intro w hSw; (try dsimp only at hSw); go_simp; try with_reducible rfl)
          simp only [put_mk, List.set_cons_succ, List.set_cons_zero]
          refine wpAnyH_take (i := 8) (oi := ?o2x8) (v := ?v2x8) ?hi2x8 (by kernel_rfl) ?hf2x8 ?hr2x8 (fun _ _ _ h => h) ?hy2x8 (by assumption) ?rest2x8
          case hi2x8 => (simp only [List.getElem?_toArray, List.getElem?_cons_succ, List.getElem?_cons_zero]; exact rfl)
          case hf2x8 => kernel_rfl
          case hr2x8 => kernel_rfl
          case hy2x8 => (refine Or.inl ⟨by rfl, ?_⟩; intro w hSw; (try dsimp only at hSw); go_simp; try with_reducible rfl)
          simp only [put_mk, List.set_cons_succ, List.set_cons_zero]
          refine wpAnyH_take (i := 9) (oi := ?o2x9) (v := ?v2x9) ?hi2x9 (by kernel_rfl) ?hf2x9 ?hr2x9 (fun _ _ _ h => h) ?hy2x9 (by assumption) ?rest2x9
          case hi2x9 => (simp only [List.getElem?_toArray, List.getElem?_cons_succ, List.getElem?_cons_zero]; exact rfl)
          case hf2x9 => kernel_rfl
          case hr2x9 => kernel_rfl
          case hy2x9 => (refine Or.inl ⟨by rfl, ?_⟩; intro w hSw; (try dsimp only at hSw); go_simp; try with_reducible rfl)
          simp only [put_mk, List.set_cons_succ, List.set_cons_zero]
          refine wpAnyH_take (i := 10) (oi := ?o2x10) (v := ?v2x10) ?hi2x10 (by kernel_rfl) ?hf2x10 ?hr2x10 (fun _ _ _ h => h) ?hy2x10 (by assumption) ?rest2x10
          case hi2x10 => (simp only [List.getElem?_toArray, List.getElem?_cons_succ, List.getElem?_cons_zero]; exact rfl)
          case hf2x10 => kernel_rfl
          case hr2x10 => kernel_rfl
          case hy2x10 => (refine Or.inl ⟨by rfl, ?_⟩; intro w hSw; (try dsimp only at hSw); go_simp; try with_reducible rfl)
          simp only [put_mk, List.set_cons_succ, List.set_cons_zero]
          refine wpAnyH_take (i := 11) (oi := ?o2x11) (v := ?v2x11) ?hi2x11 (by kernel_rfl) ?hf2x11 ?hr2x11 (fun _ _ _ h => h) ?hy2x11 (by assumption) ?rest2x11
          case hi2x11 => (simp only [List.getElem?_toArray, List.getElem?_cons_succ, List.getElem?_cons_zero]; exact rfl)
          case hf2x11 => kernel_rfl
          case hr2x11 => kernel_rfl
          case hy2x11 => (refine Or.inl ⟨by rfl, ?_⟩; intro w hSw; (try dsimp only at hSw); go_simp; try with_reducible rfl)
          simp only [put_mk, List.set_cons_succ, List.set_cons_zero]
          refine wpAnyH_ready (rs := [12]) (by kernel_rfl) (by simp) ?_
          refine AllReadyH.cons (o := ?o2x12) ?hi2x12 (fun K hK => ?_) AllReadyH.nil
          case hi2x12 => (simp only [List.getElem?_toArray, List.getElem?_cons_succ, List.getElem?_cons_zero]; exact rfl)
          go_simp
          go_at_call 35
          refine ((HWi _ _ _ _).out).mono ?_
          rintro e wz ⟨rfl, hwz⟩
          subst wz
          refine hK.out _ _ ?_ (fun hHeld => ?_)
          · (repeat (first | exact Ext.refl _ | assumption | refine Ext.setCell ?_ (by first | (simp; done) | (simp; omega)) _ | refine Ext.drewN ?_ _ | refine Ext.alloc ?_ _ | refine Ext.drew ?_ | refine Ext.trans ?_ (by assumption)))
          clear hK K
          refine wpAnyH_take (i := 13) (oi := ?o2x13) (v := ?v2x13) ?hi2x13 (by kernel_rfl) ?hf2x13 ?hr2x13 (fun _ _ _ h => h) ?hy2x13 (by assumption) ?rest2x13
          case hi2x13 => (simp only [List.getElem?_toArray, List.getElem?_cons_succ, List.getElem?_cons_zero]; exact rfl)
          case hf2x13 => kernel_rfl
          case hr2x13 => kernel_rfl
          case hy2x13 => (refine Or.inl ⟨by rfl, ?_⟩; intro w hSw; (try dsimp only at hSw); go_simp; try with_reducible rfl)
          simp only [put_mk, List.set_cons_succ, List.set_cons_zero]
          refine wpAnyH_take (i := 14) (oi := ?o2x14) (v := ?v2x14) ?hi2x14 (by kernel_rfl) ?hf2x14 ?hr2x14 (fun _ _ _ h => h) ?hy2x14 (by assumption) ?rest2x14
          case hi2x14 => (simp only [List.getElem?_toArray, List.getElem?_cons_succ, List.getElem?_cons_zero]; exact rfl)
          case hf2x14 => kernel_rfl
          case hr2x14 => kernel_rfl
          case hy2x14 => (refine Or.inl ⟨by rfl, ?_⟩; intro w hSw; (try dsimp only at hSw); go_simp; try with_reducible rfl)
          simp only [put_mk, List.set_cons_succ, List.set_cons_zero]
          refine wpAnyH_ready (rs := [15]) (by kernel_rfl) (by simp) ?_
          refine AllReadyH.cons (o := ?o2x15) ?hi2x15 (fun K hK => ?_) AllReadyH.nil
          case hi2x15 => (simp only [List.getElem?_toArray, List.getElem?_cons_succ, List.getElem?_cons_zero]; exact rfl)
          go_simp
          go_at_call 19
          refine ((HWh _ _ _).out).mono ?_
          rintro e wz ⟨rfl, hwz⟩
          subst wz
          refine hK.out _ _ ?_ (fun hHeld => ?_)
          · (repeat (first | exact Ext.refl _ | assumption | refine Ext.setCell ?_ (by first | (simp; done) | (simp; omega)) _ | refine Ext.drewN ?_ _ | refine Ext.alloc ?_ _ | refine Ext.drew ?_ | refine Ext.trans ?_ (by assumption)))
          clear hK K
          refine wpAnyH_ready (rs := [21]) (by kernel_rfl) (by simp) ?_
          refine AllReadyH.cons (o := ?o2x21) ?hi2x21 (fun K hK => ?_) AllReadyH.nil
          case hi2x21 => (simp only [List.getElem?_toArray, List.getElem?_cons_succ, List.getElem?_cons_zero]; exact rfl)
          go_simp
          go_at_call 19
          refine ((HWh _ _ _).out).mono ?_
          rintro e wz ⟨rfl, hwz⟩
          subst wz
          refine hK.out _ _ ?_ (fun hHeld => ?_)
          · (repeat (first | exact Ext.refl _ | assumption | refine Ext.setCell ?_ (by first | (simp; done) | (simp; omega)) _ | refine Ext.drewN ?_ _ | refine Ext.alloc ?_ _ | refine Ext.drew ?_ | refine Ext.trans ?_ (by assumption)))
          clear hK K
          refine wpAnyH_ready (rs := [24]) (by kernel_rfl) (by simp) ?_
          refine AllReadyH.cons (o := ?o2x24) ?hi2x24 (fun K hK => ?_) AllReadyH.nil
          case hi2x24 => (simp only [List.getElem?_toArray, List.getElem?_cons_succ, List.getElem?_cons_zero]; exact rfl)
          go_simp
          go_at_call 19
          refine ((HWh _ _ _).out).mono ?_
          rintro e wz ⟨rfl, hwz⟩
          subst wz
          refine hK.out _ _ ?_ (fun hHeld => ?_)
          · (repeat (first | exact Ext.refl _ | assumption | refine Ext.setCell ?_ (by first | (simp; done) | (simp; omega)) _ | refine Ext.drewN ?_ _ | refine Ext.alloc ?_ _ | refine Ext.drew ?_ | refine Ext.trans ?_ (by assumption)))
          clear hK K
          refine wpAnyH_ready (rs := [28]) (by kernel_rfl) (by simp) ?_
          refine AllReadyH.cons (o := ?o2x28) ?hi2x28 (fun K hK => ?_) AllReadyH.nil
          case hi2x28 => (simp only [List.getElem?_toArray, List.getElem?_cons_succ, List.getElem?_cons_zero]; exact rfl)
          go_simp
          go_at_call 19
          refine ((HWh _ _ _).out).mono ?_
          rintro e wz ⟨rfl, hwz⟩
          subst wz
          refine hK.out _ _ ?_ (fun hHeld => ?_)
          · (repeat (first | exact Ext.refl _ | assumption | refine Ext.setCell ?_ (by first | (simp; done) | (simp; omega)) _ | refine Ext.drewN ?_ _ | refine Ext.alloc ?_ _ | refine Ext.drew ?_ | refine Ext.trans ?_ (by assumption)))
          clear hK K
          refine wpAnyH_ready (rs := [29]) (by kernel_rfl) (by simp) ?_
          refine AllReadyH.cons (o := ?o2x29) ?hi2x29 (fun K hK => ?_) AllReadyH.nil
          case hi2x29 => (simp only [List.getElem?_toArray, List.getElem?_cons_succ, List.getElem?_cons_zero]; exact rfl)
          go_simp
          refine hK.out _ _ ?_ (fun hHeld => ?_)
          · (repeat (first | exact Ext.refl _ | assumption | refine Ext.setCell ?_ (by first | (simp; done) | (simp; omega)) _ | refine Ext.drewN ?_ _ | refine Ext.alloc ?_ _ | refine Ext.drew ?_ | refine Ext.trans ?_ (by assumption)))
          clear hK K
          refine wpAnyH_ready (rs := [30]) (by kernel_rfl) (by simp) ?_
          refine AllReadyH.cons (o := ?o2x30) ?hi2x30 (fun K hK => ?_) AllReadyH.nil
          case hi2x30 => (simp only [List.getElem?_toArray, List.getElem?_cons_succ, List.getElem?_cons_zero]; exact rfl)
          go_simp
          go_at_call 17
          refine ((HS5 _ _ _ _ _ _ _ ((Rd.new (by first | rfl | simp) (by first | rfl | simp)).ext (Ext.drew (Ext.refl _)))).out).mono ?_
          rintro e wz ⟨rfl, hwz⟩
          subst wz
          refine hK.out _ _ ?_ (fun hHeld => ?_)
          · (repeat (first | exact Ext.refl _ | assumption | refine Ext.setCell ?_ (by first | (simp; done) | (simp; omega)) _ | refine Ext.drewN ?_ _ | refine Ext.alloc ?_ _ | refine Ext.drew ?_ | refine Ext.trans ?_ (by assumption)))
          clear hK K
          refine wpAnyH_take (i := 31) (oi := ?o2x31) (v := ?v2x31) ?hi2x31 (by kernel_rfl) ?hf2x31 ?hr2x31 (fun _ _ _ h => h) ?hy2x31 (by assumption) ?rest2x31
          case hi2x31 => (simp only [List.getElem?_toArray, List.getElem?_cons_succ, List.getElem?_cons_zero]; exact rfl)
          case hf2x31 => kernel_rfl
          case hr2x31 => kernel_rfl
          case hy2x31 => (refine Or.inl ⟨by rfl, ?_⟩; intro w hSw; (try dsimp only at hSw); go_simp; try with_reducible rfl)
          simp only [put_mk, List.set_cons_succ, List.set_cons_zero]
          refine wpAnyH_done (by kernel_rfl) ?_ _
          refine NoPanic.normal ?_
          have hend := hidA (hx1.trans hHeld)
          rw [hwa] at HJ2
          clear hx1 hHeld r0 r1 r3 kR
          go_wp2
          go_roundw
          case rel => exact ⟨i + 1, _, Hin.out, (by first | rfl | go_num), rfl, HJ2.out, hend.out⟩
          case measure => exact nxt_c Hin.out
    · obtain rfl : i = n := by omega
      have hu := hJ.fin Hn.out
      subst hu
      have hend := hxa.trans hx
      have HSx : ∀ (B : Option Addr) (w : World), Rd w B [.int .i64 (roadsE many l), .int .i64 (whenI (!withI src 0 m1) 11)] → Hid (Calls Try.prog 17 #[.slice B 2 2] w fun e w' => e = .returned (.int .i64 E) ∧ w = w') := fun B w h => by
        have h9 := first_any B 2 2 [roadsE many l, whenI (!withI src 0 m1) 11] w rfl h (by omega)
        rw [HTf] at h9
        exact hidA h9
      clear hJ hi hin HTf HS2 HS5
      generalize roadsE many l = T0 at *
      go_wp2_with (first | (go_at_call 35; refine ((HWi _ _ _ _).out).mono ?_; rintro e w7 ⟨rfl, hw7⟩; subst hw7) | (go_at_call 19; refine ((HWh _ _ _).out).mono ?_; rintro e w7 ⟨rfl, hw7⟩; subst hw7) | (go_at_call 17; refine ((HSx _ _ (Rd.new (by first | rfl | simp) (by first | rfl | simp))).out).mono ?_; rintro e w8 ⟨rfl, hw8⟩; subst hw8) | (go_at_call 15; refine ((HL _).out).mono ?_; rintro e w4 ⟨rfl, hx4⟩))
      go_ret
      exact ⟨by first | rfl | simp, (by repeat (first | exact Ext.refl _ | assumption | refine Ext.setCell ?_ (by first | (simp; done) | (simp; omega)) _ | refine Ext.drewN ?_ _ | refine Ext.alloc ?_ _ | refine Ext.drew ?_ | refine Ext.trans ?_ (by assumption)))⟩
set_option maxRecDepth 100000 in
set_option maxHeartbeats 12800000 in
theorem trips_good (N src : Nat) (A : Option Addr) (n c : Nat) (l : List RoR) (w : World) (hn : l.length = n) (hV : Rd w A (rocells l)) (hn4 : n ≤ 140737488355328) (hT : roadsE N l = 0) (hs : src < N) :
    Calls Try.prog 10 #[.int .i64 (N : Int), .slice A n c, .int .i64 (src : Int)] w fun e w' => e = .returned (.bool true) ∧ Ext w w' := by
  obtain ⟨h1, h24, hn3, hl⟩ := roadsE_zero rfl hT
  rw [hn] at hn3
  have HT := hidA (Trips_ok N src A n c l w hn hV h1 h24 hn3 hl hs hT)
  have HO := fun (w' : World) (h : Ext w w') => hidA (TripsOf_any N src A n c l w' hn (hV.ext h) h1 h24 hn3 hl hs)
  have hE : tripE (N : Int) l (src : Int) = 0 := by
    unfold tripE
    rw [if_neg (by simpa using hT), if_neg (by omega)]
  have HL := fun (w : World) => hidA (leads_any w)
  have HWh : ∀ (b : Bool) (k : Int) (w : World), Hid (Calls Try.prog 19 #[.bool b, .int .i64 k] w fun e w' => e = .returned (.int .i64 (whenI b k)) ∧ w = w') := fun b k w => hidA (when_any b k w)
  have HWi : ∀ (a b c : Int) (w : World), Hid (Calls Try.prog 35 #[.int .i64 a, .int .i64 b, .int .i64 c] w fun e w' => e = .returned (.bool (withI a b c)) ∧ w = w') := fun a b c w => hidA (within_any a b c w)
  have HS2 := fun (a b : Int) (B : Option Addr) (w : World) (h : Rd w B [.int .i64 a, .int .i64 b]) => hidA (first_any B 2 2 [a, b] w rfl h (by omega))
  have HS5 := fun (a b c d e : Int) (B : Option Addr) (w : World) (h : Rd w B [.int .i64 a, .int .i64 b, .int .i64 c, .int .i64 d, .int .i64 e]) => hidA (first_any B 5 5 [a, b, c, d, e] w rfl h (by omega))
  have HV := fun (w' : World) (h : Ext w w') => hidA (hV.ext h)
  have Hn := hidA hn
  obtain ⟨m1, hm1⟩ : ∃ m1, m1 = IntKind.i64.wrap ((N : Int) - 1) := ⟨_, rfl⟩
  have hmm : 1 ≤ (N : Int) → (N : Int) ≤ 24 → m1 = (N : Int) - 1 := fun h1 h2 => by rw [hm1]; exact IntWalk.i64_in _ ⟨by omega, by omega⟩
  have HJ0 := hidA (TJ.start (N : Int) l)
  rw [hn] at HJ0
  have hw1 := hm1.symm
  have HTf := hidA (trip_first (src := (src : Int)) (l := l) hmm)
  have Hmm := hidA hmm
  have HN24 := hidA h24
  clear hn hV hmm hm1 h1 h24 hl
  rw [hE] at HTf
  clear hE hT
  go_enter Try.func10, Try.ntmps10
  go_upto_region 2 with (go_at_call 44; refine (HT.out).mono ?_; rintro e w0 ⟨go, gs, is, v, rfl, b1, b2, kO, kS, hTL, hx0⟩)
  have hb1 := b1
  have HKO := hidA kO
  have HKS := hidA kS
  have HTL := hidA hTL
  have Hb := hidA (And.intro b1 b2)
  clear b1 b2 hb1 kO kS hTL HT
  go_upto_region 4 with (first | (go_at_call 35; refine ((HWi _ _ _ _).out).mono ?_; rintro e w7 ⟨rfl, hw7⟩; subst hw7) | (go_at_call 19; refine ((HWh _ _ _).out).mono ?_; rintro e w7 ⟨rfl, hw7⟩; subst hw7) | (go_at_call 17; refine ((HS2 _ _ _ _ (Rd.new (by first | rfl | simp) (by first | rfl | simp))).out).mono ?_; rintro e w8 ⟨rfl, hw8⟩; subst hw8))
  have hxa := hx0.alloc (.cells #[.int .i64 (whenI (!withI (N : Int) 1 24) 3), .int .i64 (whenI (decide ((1000 : Int) < (n : Int))) 4)] 33)
  have Hsz := hidA (show w0.heap.size ≤ (w0.alloc (.cells #[.int .i64 (whenI (!withI (N : Int) 1 24) 3), .int .i64 (whenI (decide ((1000 : Int) < (n : Int))) 4)] 33)).heap.size from by simp)
  have HKOa := hidA (HKO.out.alloc (.cells #[.int .i64 (whenI (!withI (N : Int) 1 24) 3), .int .i64 (whenI (decide ((1000 : Int) < (n : Int))) 4)] 33))
  have HKSa := hidA (HKS.out.alloc (.cells #[.int .i64 (whenI (!withI (N : Int) 1 24) 3), .int .i64 (whenI (decide ((1000 : Int) < (n : Int))) 4)] 33))
  clear HKO HKS
  clear hx0
  generalize w0.alloc (.cells #[.int .i64 (whenI (!withI (N : Int) 1 24) 3), .int .i64 (whenI (decide ((1000 : Int) < (n : Int))) 4)] 33) = wa at *
  generalize (firstE [whenI (!withI (N : Int) 1 24) 3, whenI (decide ((1000 : Int) < (n : Int))) 4]) = u0 at *
  go_loopw [10, 36] (fun s10 s36 wr => ∃ (i : Nat) (u : Int), i ≤ n ∧ s36 = .int .i64 i ∧ s10 = .int .i64 u ∧ TJ (N : Int) l i u ∧ Ext wa wr) (fun _ s36 _ => n - (intOf s36).toNat)
  case atStart => exact ⟨0, u0, Nat.zero_le _, rfl, rfl, HJ0.out, Ext.refl _⟩
  case round =>
    clear HJ0
    obtain ⟨i, u, hi, rfl, rfl, hJ, hx⟩ := hrel
    by_cases hin : i < n
    · have Hin := hidA hin
      have hil : i < l.length := by have := Hn.out; omega
      obtain ⟨ad, rfl, hbk, d0, d1, d2, d3⟩ := ((HV _ (hxa.trans hx)).out).road hil
      have hJ2 := hJ.next hil Hmm.out
      obtain ⟨r, hr⟩ : ∃ r, r = l[i] := ⟨_, rfl⟩
      rw [← hr] at d0 d1 d2 d3 hJ2
      obtain ⟨a, b, wA, wn, wc, p⟩ := r
      dsimp only at d0 d1 d2 d3
      unfold roadU at hJ2
      dsimp only at hJ2
      have HJ2 := hidA hJ2
      have i0 : (0 : Int) ≤ i := by omega
      have i1 : (i : Int) < n := by omega
      have i2 : (n : Int) ≤ 140737488355328 := by omega
      clear hJ hJ2 hr hbk hi hin
      go_upto_region 6 with fail
      have kR : Bk (wr.alloc (.cells #[.int .i64 a, .int .i64 b, .slice wA wn wc, .float .f32 p] 87)) wr.heap.size 87 #[.int .i64 a, .int .i64 b, .slice wA wn wc, .float .f32 p] := Bk.new' rfl
      have hx1 := hx.alloc (.cells #[.int .i64 a, .int .i64 b, .slice wA wn wc, .float .f32 p] 87)
      clear d0 d1 d2 d3 hx
      generalize wr.alloc (.cells #[.int .i64 a, .int .i64 b, .slice wA wn wc, .float .f32 p] 87) = w1 at *
      generalize wr.heap.size = ha at *
      have r3 := kR.cell 3
      go_cut [13] (fun s13 wx => s13 = Value.bool (finB p) ∧ wx = w1)
      case first =>
        cases hf : finB p
        · rcases fin_cases hf with c1 | ⟨c1, c2⟩ | ⟨c1, c2, c3⟩
          all_goals
            go_wp2_with fail
            go_meet
            case rel => exact ⟨by rw [hf], rfl⟩
        · obtain ⟨c1, c2, c3⟩ := fin_parts hf
          go_wp2_with fail
          go_meet
          case rel => exact ⟨by rw [hf], rfl⟩
      case rest =>
        obtain ⟨rfl, rfl⟩ := hcut
        clear r3
        have r0 : ∀ w', Ext wc w' → w'.cell? ⟨ha, 0, none⟩ = some (.int .i64 a) := fun w' h => (kR.ext h).cell 0
        have r1 : ∀ w', Ext wc w' → w'.cell? ⟨ha, 1, none⟩ = some (.int .i64 b) := fun w' h => (kR.ext h).cell 1
        have r3 : ∀ w', Ext wc w' → w'.cell? ⟨ha, 3, none⟩ = some (.float .f32 p) := fun w' h => (kR.ext h).cell 3
        go_upto_region 7 with fail
        cases hwa : withI a 0 m1
        · have hwn : (!withI a 0 m1) = true := by rw [hwa]; rfl
          refine wp_region_noPanic ?_
          refine wp_region_held_drew (S := fun w' => Ext wc w') (by kernel_rfl) ?_ (fun hHeld => ?_)
          · (repeat (first | exact Ext.refl _ | assumption | refine Ext.setCell ?_ (by first | (simp; done) | (simp; omega)) _ | refine Ext.drewN ?_ _ | refine Ext.alloc ?_ _ | refine Ext.drew ?_ | refine Ext.trans ?_ (by assumption)))
          refine wpAnyH_take (i := 0) (oi := ?o3x0) (v := ?v3x0) ?hi3x0 (by kernel_rfl) ?hf3x0 ?hr3x0 (fun _ _ _ h => h) ?hy3x0 (by assumption) ?rest3x0
          case hi3x0 => (simp only [List.getElem?_toArray, List.getElem?_cons_zero]; exact rfl)
          case hf3x0 => kernel_rfl
          case hr3x0 => kernel_rfl
          case hy3x0 => (refine Or.inl ⟨by rfl, ?_⟩; intro w hSw; (try dsimp only at hSw); go_simp; try with_reducible rfl)
          simp only [put_mk, List.set_cons_succ, List.set_cons_zero]
          refine wpAnyH_take (i := 1) (oi := ?o3x1) (v := ?v3x1) ?hi3x1 (by kernel_rfl) ?hf3x1 ?hr3x1 (fun _ _ _ h => h) ?hy3x1 (by assumption) ?rest3x1
          case hi3x1 => (simp only [List.getElem?_toArray, List.getElem?_cons_succ, List.getElem?_cons_zero]; exact rfl)
          case hf3x1 => kernel_rfl
          case hr3x1 => kernel_rfl
          case hy3x1 => (refine Or.inl ⟨by rfl, ?_⟩; intro w hSw; (try dsimp only at hSw); go_simp; try with_reducible rfl)
          simp only [put_mk, List.set_cons_succ, List.set_cons_zero]
          refine wpAnyH_take (i := 2) (oi := ?o3x2) (v := ?v3x2) ?hi3x2 (by kernel_rfl) ?hf3x2 ?hr3x2 (fun _ _ _ h => h) ?hy3x2 (by assumption) ?rest3x2
          case hi3x2 => (simp only [List.getElem?_toArray, List.getElem?_cons_succ, List.getElem?_cons_zero]; exact rfl)
          case hf3x2 => kernel_rfl
          case hr3x2 => kernel_rfl
          case hy3x2 => (refine Or.inl ⟨by rfl, ?_⟩; intro w hSw; (try dsimp only at hSw); go_simp; try with_reducible rfl)
          simp only [put_mk, List.set_cons_succ, List.set_cons_zero]
          refine wpAnyH_take (i := 3) (oi := ?o3x3) (v := ?v3x3) ?hi3x3 (by kernel_rfl) ?hf3x3 ?hr3x3 (fun _ _ _ h => h) ?hy3x3 (by assumption) ?rest3x3
          case hi3x3 => (simp only [List.getElem?_toArray, List.getElem?_cons_succ, List.getElem?_cons_zero]; exact rfl)
          case hf3x3 => kernel_rfl
          case hr3x3 => kernel_rfl
          case hy3x3 => (refine Or.inl ⟨by rfl, ?_⟩; intro w hSw; (try dsimp only at hSw); go_simp; try with_reducible rfl)
          simp only [put_mk, List.set_cons_succ, List.set_cons_zero]
          refine wpAnyH_take (i := 4) (oi := ?o3x4) (v := ?v3x4) ?hi3x4 (by kernel_rfl) ?hf3x4 ?hr3x4 (fun _ _ _ h => h) ?hy3x4 (by assumption) ?rest3x4
          case hi3x4 => (simp only [List.getElem?_toArray, List.getElem?_cons_succ, List.getElem?_cons_zero]; exact rfl)
          case hf3x4 => kernel_rfl
          case hr3x4 => kernel_rfl
          case hy3x4 => (refine Or.inl ⟨by rfl, ?_⟩; intro w hSw; (try dsimp only at hSw); go_simp; try with_reducible rfl)
          simp only [put_mk, List.set_cons_succ, List.set_cons_zero]
          refine wpAnyH_take (i := 16) (oi := ?o3x16) (v := ?v3x16) ?hi3x16 (by kernel_rfl) ?hf3x16 ?hr3x16 (fun _ _ _ h => h) ?hy3x16 (by assumption) ?rest3x16
          case hi3x16 => (simp only [List.getElem?_toArray, List.getElem?_cons_succ, List.getElem?_cons_zero]; exact rfl)
          case hf3x16 => kernel_rfl
          case hr3x16 => kernel_rfl
          case hy3x16 => (refine Or.inl ⟨by rfl, ?_⟩; intro w hSw; (try dsimp only at hSw); go_simp; try with_reducible rfl)
          simp only [put_mk, List.set_cons_succ, List.set_cons_zero]
          refine wpAnyH_take (i := 17) (oi := ?o3x17) (v := ?v3x17) ?hi3x17 (by kernel_rfl) ?hf3x17 ?hr3x17 (fun _ _ _ h => h) ?hy3x17 (by assumption) ?rest3x17
          case hi3x17 => (simp only [List.getElem?_toArray, List.getElem?_cons_succ, List.getElem?_cons_zero]; exact rfl)
          case hf3x17 => kernel_rfl
          case hr3x17 => kernel_rfl
          case hy3x17 => (refine Or.inl ⟨by rfl, ?_⟩; intro w hSw; (try dsimp only at hSw); go_simp; try with_reducible rfl)
          simp only [put_mk, List.set_cons_succ, List.set_cons_zero]
          refine wpAnyH_take (i := 18) (oi := ?o3x18) (v := ?v3x18) ?hi3x18 (by kernel_rfl) ?hf3x18 ?hr3x18 (fun _ _ _ h => h) ?hy3x18 (by assumption) ?rest3x18
          case hi3x18 => (simp only [List.getElem?_toArray, List.getElem?_cons_succ, List.getElem?_cons_zero]; exact rfl)
          case hf3x18 => kernel_rfl
          case hr3x18 => kernel_rfl
          case hy3x18 => (refine Or.inl ⟨by rfl, ?_⟩; intro w hSw; (try dsimp only at hSw); go_simp; try with_reducible rfl)
          simp only [put_mk, List.set_cons_succ, List.set_cons_zero]
          refine wpAnyH_take (i := 19) (oi := ?o3x19) (v := ?v3x19) ?hi3x19 (by kernel_rfl) ?hf3x19 ?hr3x19 (fun _ _ _ h => h) ?hy3x19 (by assumption) ?rest3x19
          case hi3x19 => (simp only [List.getElem?_toArray, List.getElem?_cons_succ, List.getElem?_cons_zero]; exact rfl)
          case hf3x19 => kernel_rfl
          case hr3x19 => kernel_rfl
          case hy3x19 => (refine Or.inl ⟨by rfl, ?_⟩; intro w hSw; (try dsimp only at hSw); go_simp; try with_reducible rfl)
          simp only [put_mk, List.set_cons_succ, List.set_cons_zero]
          refine wpAnyH_take (i := 20) (oi := ?o3x20) (v := ?v3x20) ?hi3x20 (by kernel_rfl) ?hf3x20 ?hr3x20 (fun _ _ _ h => h) ?hy3x20 (by assumption) ?rest3x20
          case hi3x20 => (simp only [List.getElem?_toArray, List.getElem?_cons_succ, List.getElem?_cons_zero]; exact rfl)
          case hf3x20 => kernel_rfl
          case hr3x20 => kernel_rfl
          case hy3x20 => (refine Or.inl ⟨by rfl, ?_⟩; intro w hSw; (try dsimp only at hSw); go_simp; try with_reducible rfl)
          simp only [put_mk, List.set_cons_succ, List.set_cons_zero]
          refine wpAnyH_take (i := 22) (oi := ?o3x22) (v := ?v3x22) ?hi3x22 (by kernel_rfl) ?hf3x22 ?hr3x22 (fun _ _ _ h => h) ?hy3x22 (by assumption) ?rest3x22
          case hi3x22 => (simp only [List.getElem?_toArray, List.getElem?_cons_succ, List.getElem?_cons_zero]; exact rfl)
          case hf3x22 => kernel_rfl
          case hr3x22 => kernel_rfl
          case hy3x22 => (refine Or.inl ⟨by rfl, ?_⟩; intro w hSw; (try dsimp only at hSw); go_simp; try with_reducible rfl)
          simp only [put_mk, List.set_cons_succ, List.set_cons_zero]
          refine wpAnyH_take (i := 23) (oi := ?o3x23) (v := ?v3x23) ?hi3x23 (by kernel_rfl) ?hf3x23 ?hr3x23 (fun _ _ _ h => h) ?hy3x23 (by assumption) ?rest3x23
          case hi3x23 => (simp only [List.getElem?_toArray, List.getElem?_cons_succ, List.getElem?_cons_zero]; exact rfl)
          case hf3x23 => kernel_rfl
          case hr3x23 => kernel_rfl
          case hy3x23 => (refine Or.inl ⟨by rfl, ?_⟩; intro w hSw; (try dsimp only at hSw); go_simp; try with_reducible rfl)
          simp only [put_mk, List.set_cons_succ, List.set_cons_zero]
          refine wpAnyH_take (i := 25) (oi := ?o3x25) (v := ?v3x25) ?hi3x25 (by kernel_rfl) ?hf3x25 ?hr3x25 (fun _ _ _ h => h) ?hy3x25 (by assumption) ?rest3x25
          case hi3x25 => (simp only [List.getElem?_toArray, List.getElem?_cons_succ, List.getElem?_cons_zero]; exact rfl)
          case hf3x25 => kernel_rfl
          case hr3x25 => kernel_rfl
          case hy3x25 => (refine Or.inl ⟨by rfl, ?_⟩; intro w hSw; (try dsimp only at hSw); go_simp; try with_reducible rfl)
          simp only [put_mk, List.set_cons_succ, List.set_cons_zero]
          refine wpAnyH_take (i := 26) (oi := ?o3x26) (v := ?v3x26) ?hi3x26 (by kernel_rfl) ?hf3x26 ?hr3x26 (fun _ _ _ h => h) ?hy3x26 (by assumption) ?rest3x26
          case hi3x26 => (simp only [List.getElem?_toArray, List.getElem?_cons_succ, List.getElem?_cons_zero]; exact rfl)
          case hf3x26 => kernel_rfl
          case hr3x26 => kernel_rfl
          case hy3x26 => (refine Or.inl ⟨by rfl, ?_⟩; intro w hSw; (try dsimp only at hSw); go_simp; try with_reducible rfl)
          simp only [put_mk, List.set_cons_succ, List.set_cons_zero]
          refine wpAnyH_take (i := 27) (oi := ?o3x27) (v := ?v3x27) ?hi3x27 (by kernel_rfl) ?hf3x27 ?hr3x27 (fun _ _ _ h => h) ?hy3x27 (by assumption) ?rest3x27
          case hi3x27 => (simp only [List.getElem?_toArray, List.getElem?_cons_succ, List.getElem?_cons_zero]; exact rfl)
          case hf3x27 => kernel_rfl
          case hr3x27 => kernel_rfl
          case hy3x27 => (refine Or.inl ⟨by rfl, ?_⟩; intro w hSw; (try dsimp only at hSw); go_simp; try with_reducible rfl)
          simp only [put_mk, List.set_cons_succ, List.set_cons_zero]
          refine wpAnyH_ready (rs := [5]) (by kernel_rfl) (by simp) ?_
          refine AllReadyH.cons (o := ?o3x5) ?hi3x5 (fun K hK => ?_) AllReadyH.nil
          case hi3x5 => (simp only [List.getElem?_toArray, List.getElem?_cons_succ, List.getElem?_cons_zero]; exact rfl)
          go_simp
          go_at_call 35
          refine ((HWi _ _ _ _).out).mono ?_
          rintro e wz ⟨rfl, hwz⟩
          subst wz
          refine hK.out _ _ ?_ (fun hHeld => ?_)
          · (repeat (first | exact Ext.refl _ | assumption | refine Ext.setCell ?_ (by first | (simp; done) | (simp; omega)) _ | refine Ext.drewN ?_ _ | refine Ext.alloc ?_ _ | refine Ext.drew ?_ | refine Ext.trans ?_ (by assumption)))
          clear hK K
          refine wpAnyH_take (i := 6) (oi := ?o3x6) (v := ?v3x6) ?hi3x6 (by kernel_rfl) ?hf3x6 ?hr3x6 (fun _ _ _ h => h) ?hy3x6 (by assumption) ?rest3x6
          case hi3x6 => (simp only [List.getElem?_toArray, List.getElem?_cons_succ, List.getElem?_cons_zero]; exact rfl)
          case hf3x6 => kernel_rfl
          case hr3x6 => kernel_rfl
          case hy3x6 => (refine Or.inl ⟨by rfl, ?_⟩; intro w hSw; (try dsimp only at hSw); go_simp; try with_reducible rfl)
          simp only [put_mk, List.set_cons_succ, List.set_cons_zero]
          refine wpAnyH_take (i := 7) (oi := ?o3x7) (v := ?v3x7) ?hi3x7 (by kernel_rfl) ?hf3x7 ?hr3x7 (fun _ _ _ h => h) ?hy3x7 (by assumption) ?rest3x7
          case hi3x7 => (simp only [List.getElem?_toArray, List.getElem?_cons_succ, List.getElem?_cons_zero]; exact rfl)
          case hf3x7 => kernel_rfl
          case hr3x7 => kernel_rfl
          case hy3x7 => (refine Or.inl ⟨by rfl, ?_⟩; intro w hSw; (try dsimp only at hSw); go_simp; try with_reducible rfl)
          simp only [put_mk, List.set_cons_succ, List.set_cons_zero]
          refine wpAnyH_take (i := 8) (oi := ?o3x8) (v := undef) ?hi3x8 (by kernel_rfl) ?hf3x8 ?hr3x8 (fun _ _ _ h => h) ?hy3x8 (by assumption) ?rest3x8
          case hi3x8 => (simp only [List.getElem?_toArray, List.getElem?_cons_succ, List.getElem?_cons_zero]; exact rfl)
          case hf3x8 => kernel_rfl
          case hr3x8 => kernel_rfl
          case hy3x8 => exact Or.inr ⟨by rfl, rfl⟩
          simp only [put_mk, List.set_cons_succ, List.set_cons_zero]
          refine wpAnyH_take (i := 9) (oi := ?o3x9) (v := undef) ?hi3x9 (by kernel_rfl) ?hf3x9 ?hr3x9 (fun _ _ _ h => h) ?hy3x9 (by assumption) ?rest3x9
          case hi3x9 => (simp only [List.getElem?_toArray, List.getElem?_cons_succ, List.getElem?_cons_zero]; exact rfl)
          case hf3x9 => kernel_rfl
          case hr3x9 => kernel_rfl
          case hy3x9 => exact Or.inr ⟨by rfl, rfl⟩
          simp only [put_mk, List.set_cons_succ, List.set_cons_zero]
          refine wpAnyH_take (i := 10) (oi := ?o3x10) (v := undef) ?hi3x10 (by kernel_rfl) ?hf3x10 ?hr3x10 (fun _ _ _ h => h) ?hy3x10 (by assumption) ?rest3x10
          case hi3x10 => (simp only [List.getElem?_toArray, List.getElem?_cons_succ, List.getElem?_cons_zero]; exact rfl)
          case hf3x10 => kernel_rfl
          case hr3x10 => kernel_rfl
          case hy3x10 => exact Or.inr ⟨by rfl, rfl⟩
          simp only [put_mk, List.set_cons_succ, List.set_cons_zero]
          refine wpAnyH_take (i := 11) (oi := ?o3x11) (v := undef) ?hi3x11 (by kernel_rfl) ?hf3x11 ?hr3x11 (fun _ _ _ h => h) ?hy3x11 (by assumption) ?rest3x11
          case hi3x11 => (simp only [List.getElem?_toArray, List.getElem?_cons_succ, List.getElem?_cons_zero]; exact rfl)
          case hf3x11 => kernel_rfl
          case hr3x11 => kernel_rfl
          case hy3x11 => exact Or.inr ⟨by rfl, rfl⟩
          simp only [put_mk, List.set_cons_succ, List.set_cons_zero]
          refine wpAnyH_take (i := 12) (oi := ?o3x12) (v := undef) ?hi3x12 (by kernel_rfl) ?hf3x12 ?hr3x12 (fun _ _ _ h => h) ?hy3x12 (by assumption) ?rest3x12
          case hi3x12 => (simp only [List.getElem?_toArray, List.getElem?_cons_succ, List.getElem?_cons_zero]; exact rfl)
          case hf3x12 => kernel_rfl
          case hr3x12 => kernel_rfl
          case hy3x12 => exact Or.inr ⟨by rfl, rfl⟩
          simp only [put_mk, List.set_cons_succ, List.set_cons_zero]
          refine wpAnyH_take (i := 13) (oi := ?o3x13) (v := undef) ?hi3x13 (by kernel_rfl) ?hf3x13 ?hr3x13 (fun _ _ _ h => h) ?hy3x13 (by assumption) ?rest3x13
          case hi3x13 => (simp only [List.getElem?_toArray, List.getElem?_cons_succ, List.getElem?_cons_zero]; exact rfl)
          case hf3x13 => kernel_rfl
          case hr3x13 => kernel_rfl
          case hy3x13 => exact Or.inr ⟨by rfl, rfl⟩
          simp only [put_mk, List.set_cons_succ, List.set_cons_zero]
          refine wpAnyH_take (i := 14) (oi := ?o3x14) (v := ?v3x14) ?hi3x14 (by kernel_rfl) ?hf3x14 ?hr3x14 (fun _ _ _ h => h) ?hy3x14 (by assumption) ?rest3x14
          case hi3x14 => (simp only [List.getElem?_toArray, List.getElem?_cons_succ, List.getElem?_cons_zero]; exact rfl)
          case hf3x14 => kernel_rfl
          case hr3x14 => kernel_rfl
          case hy3x14 => (refine Or.inl ⟨by rfl, ?_⟩; intro w hSw; (try dsimp only at hSw); go_simp; try with_reducible rfl)
          simp only [put_mk, List.set_cons_succ, List.set_cons_zero]
          refine wpAnyH_ready (rs := [15]) (by kernel_rfl) (by simp) ?_
          refine AllReadyH.cons (o := ?o3x15) ?hi3x15 (fun K hK => ?_) AllReadyH.nil
          case hi3x15 => (simp only [List.getElem?_toArray, List.getElem?_cons_succ, List.getElem?_cons_zero]; exact rfl)
          go_simp
          go_at_call 19
          refine ((HWh _ _ _).out).mono ?_
          rintro e wz ⟨rfl, hwz⟩
          subst wz
          refine hK.out _ _ ?_ (fun hHeld => ?_)
          · (repeat (first | exact Ext.refl _ | assumption | refine Ext.setCell ?_ (by first | (simp; done) | (simp; omega)) _ | refine Ext.drewN ?_ _ | refine Ext.alloc ?_ _ | refine Ext.drew ?_ | refine Ext.trans ?_ (by assumption)))
          clear hK K
          refine wpAnyH_ready (rs := [21]) (by kernel_rfl) (by simp) ?_
          refine AllReadyH.cons (o := ?o3x21) ?hi3x21 (fun K hK => ?_) AllReadyH.nil
          case hi3x21 => (simp only [List.getElem?_toArray, List.getElem?_cons_succ, List.getElem?_cons_zero]; exact rfl)
          go_simp
          go_at_call 19
          refine ((HWh _ _ _).out).mono ?_
          rintro e wz ⟨rfl, hwz⟩
          subst wz
          refine hK.out _ _ ?_ (fun hHeld => ?_)
          · (repeat (first | exact Ext.refl _ | assumption | refine Ext.setCell ?_ (by first | (simp; done) | (simp; omega)) _ | refine Ext.drewN ?_ _ | refine Ext.alloc ?_ _ | refine Ext.drew ?_ | refine Ext.trans ?_ (by assumption)))
          clear hK K
          refine wpAnyH_ready (rs := [24]) (by kernel_rfl) (by simp) ?_
          refine AllReadyH.cons (o := ?o3x24) ?hi3x24 (fun K hK => ?_) AllReadyH.nil
          case hi3x24 => (simp only [List.getElem?_toArray, List.getElem?_cons_succ, List.getElem?_cons_zero]; exact rfl)
          go_simp
          go_at_call 19
          refine ((HWh _ _ _).out).mono ?_
          rintro e wz ⟨rfl, hwz⟩
          subst wz
          refine hK.out _ _ ?_ (fun hHeld => ?_)
          · (repeat (first | exact Ext.refl _ | assumption | refine Ext.setCell ?_ (by first | (simp; done) | (simp; omega)) _ | refine Ext.drewN ?_ _ | refine Ext.alloc ?_ _ | refine Ext.drew ?_ | refine Ext.trans ?_ (by assumption)))
          clear hK K
          refine wpAnyH_ready (rs := [28]) (by kernel_rfl) (by simp) ?_
          refine AllReadyH.cons (o := ?o3x28) ?hi3x28 (fun K hK => ?_) AllReadyH.nil
          case hi3x28 => (simp only [List.getElem?_toArray, List.getElem?_cons_succ, List.getElem?_cons_zero]; exact rfl)
          go_simp
          go_at_call 19
          refine ((HWh _ _ _).out).mono ?_
          rintro e wz ⟨rfl, hwz⟩
          subst wz
          refine hK.out _ _ ?_ (fun hHeld => ?_)
          · (repeat (first | exact Ext.refl _ | assumption | refine Ext.setCell ?_ (by first | (simp; done) | (simp; omega)) _ | refine Ext.drewN ?_ _ | refine Ext.alloc ?_ _ | refine Ext.drew ?_ | refine Ext.trans ?_ (by assumption)))
          clear hK K
          refine wpAnyH_ready (rs := [29]) (by kernel_rfl) (by simp) ?_
          refine AllReadyH.cons (o := ?o3x29) ?hi3x29 (fun K hK => ?_) AllReadyH.nil
          case hi3x29 => (simp only [List.getElem?_toArray, List.getElem?_cons_succ, List.getElem?_cons_zero]; exact rfl)
          go_simp
          refine hK.out _ _ ?_ (fun hHeld => ?_)
          · (repeat (first | exact Ext.refl _ | assumption | refine Ext.setCell ?_ (by first | (simp; done) | (simp; omega)) _ | refine Ext.drewN ?_ _ | refine Ext.alloc ?_ _ | refine Ext.drew ?_ | refine Ext.trans ?_ (by assumption)))
          clear hK K
          refine wpAnyH_ready (rs := [30]) (by kernel_rfl) (by simp) ?_
          refine AllReadyH.cons (o := ?o3x30) ?hi3x30 (fun K hK => ?_) AllReadyH.nil
          case hi3x30 => (simp only [List.getElem?_toArray, List.getElem?_cons_succ, List.getElem?_cons_zero]; exact rfl)
          go_simp
          go_at_call 17
          refine ((HS5 _ _ _ _ _ _ _ ((Rd.new (by first | rfl | simp) (by first | rfl | simp)).ext (Ext.drew (Ext.refl _)))).out).mono ?_
          rintro e wz ⟨rfl, hwz⟩
          subst wz
          refine hK.out _ _ ?_ (fun hHeld => ?_)
          · (repeat (first | exact Ext.refl _ | assumption | refine Ext.setCell ?_ (by first | (simp; done) | (simp; omega)) _ | refine Ext.drewN ?_ _ | refine Ext.alloc ?_ _ | refine Ext.drew ?_ | refine Ext.trans ?_ (by assumption)))
          clear hK K
          refine wpAnyH_take (i := 31) (oi := ?o3x31) (v := ?v3x31) ?hi3x31 (by kernel_rfl) ?hf3x31 ?hr3x31 (fun _ _ _ h => h) ?hy3x31 (by assumption) ?rest3x31
          case hi3x31 => (simp only [List.getElem?_toArray, List.getElem?_cons_succ, List.getElem?_cons_zero]; exact rfl)
          case hf3x31 => kernel_rfl
          case hr3x31 => kernel_rfl
          case hy3x31 => (refine Or.inl ⟨by rfl, ?_⟩; intro w hSw; (try dsimp only at hSw); go_simp; try with_reducible rfl)
          simp only [put_mk, List.set_cons_succ, List.set_cons_zero]
          refine wpAnyH_done (by kernel_rfl) ?_ _
          refine NoPanic.normal ?_
          have hend := hidA (hx1.trans hHeld)
          rw [hwa] at HJ2
          clear hx1 hHeld r0 r1 r3 kR
          go_wp2
          go_roundw
          case rel => exact ⟨i + 1, _, Hin.out, (by first | rfl | go_num), rfl, HJ2.out, hend.out⟩
          case measure => exact nxt_c Hin.out
        · have hwn : (!withI a 0 m1) = false := by rw [hwa]; rfl
          refine wp_region_noPanic ?_
          refine wp_region_held_drew (S := fun w' => Ext wc w') (by kernel_rfl) ?_ (fun hHeld => ?_)
          · (repeat (first | exact Ext.refl _ | assumption | refine Ext.setCell ?_ (by first | (simp; done) | (simp; omega)) _ | refine Ext.drewN ?_ _ | refine Ext.alloc ?_ _ | refine Ext.drew ?_ | refine Ext.trans ?_ (by assumption)))
          refine wpAnyH_take (i := 0) (oi := ?o4x0) (v := ?v4x0) ?hi4x0 (by kernel_rfl) ?hf4x0 ?hr4x0 (fun _ _ _ h => h) ?hy4x0 (by assumption) ?rest4x0
          case hi4x0 => (simp only [List.getElem?_toArray, List.getElem?_cons_zero]; exact rfl)
          case hf4x0 => kernel_rfl
          case hr4x0 => kernel_rfl
          case hy4x0 => (refine Or.inl ⟨by rfl, ?_⟩; intro w hSw; (try dsimp only at hSw); go_simp; try with_reducible rfl)
          simp only [put_mk, List.set_cons_succ, List.set_cons_zero]
          refine wpAnyH_take (i := 1) (oi := ?o4x1) (v := ?v4x1) ?hi4x1 (by kernel_rfl) ?hf4x1 ?hr4x1 (fun _ _ _ h => h) ?hy4x1 (by assumption) ?rest4x1
          case hi4x1 => (simp only [List.getElem?_toArray, List.getElem?_cons_succ, List.getElem?_cons_zero]; exact rfl)
          case hf4x1 => kernel_rfl
          case hr4x1 => kernel_rfl
          case hy4x1 => (refine Or.inl ⟨by rfl, ?_⟩; intro w hSw; (try dsimp only at hSw); go_simp; try with_reducible rfl)
          simp only [put_mk, List.set_cons_succ, List.set_cons_zero]
          refine wpAnyH_take (i := 2) (oi := ?o4x2) (v := ?v4x2) ?hi4x2 (by kernel_rfl) ?hf4x2 ?hr4x2 (fun _ _ _ h => h) ?hy4x2 (by assumption) ?rest4x2
          case hi4x2 => (simp only [List.getElem?_toArray, List.getElem?_cons_succ, List.getElem?_cons_zero]; exact rfl)
          case hf4x2 => kernel_rfl
          case hr4x2 => kernel_rfl
          case hy4x2 => (refine Or.inl ⟨by rfl, ?_⟩; intro w hSw; (try dsimp only at hSw); go_simp; try with_reducible rfl)
          simp only [put_mk, List.set_cons_succ, List.set_cons_zero]
          refine wpAnyH_take (i := 3) (oi := ?o4x3) (v := ?v4x3) ?hi4x3 (by kernel_rfl) ?hf4x3 ?hr4x3 (fun _ _ _ h => h) ?hy4x3 (by assumption) ?rest4x3
          case hi4x3 => (simp only [List.getElem?_toArray, List.getElem?_cons_succ, List.getElem?_cons_zero]; exact rfl)
          case hf4x3 => kernel_rfl
          case hr4x3 => kernel_rfl
          case hy4x3 => (refine Or.inl ⟨by rfl, ?_⟩; intro w hSw; (try dsimp only at hSw); go_simp; try with_reducible rfl)
          simp only [put_mk, List.set_cons_succ, List.set_cons_zero]
          refine wpAnyH_take (i := 4) (oi := ?o4x4) (v := ?v4x4) ?hi4x4 (by kernel_rfl) ?hf4x4 ?hr4x4 (fun _ _ _ h => h) ?hy4x4 (by assumption) ?rest4x4
          case hi4x4 => (simp only [List.getElem?_toArray, List.getElem?_cons_succ, List.getElem?_cons_zero]; exact rfl)
          case hf4x4 => kernel_rfl
          case hr4x4 => kernel_rfl
          case hy4x4 => (refine Or.inl ⟨by rfl, ?_⟩; intro w hSw; (try dsimp only at hSw); go_simp; try with_reducible rfl)
          simp only [put_mk, List.set_cons_succ, List.set_cons_zero]
          refine wpAnyH_take (i := 16) (oi := ?o4x16) (v := ?v4x16) ?hi4x16 (by kernel_rfl) ?hf4x16 ?hr4x16 (fun _ _ _ h => h) ?hy4x16 (by assumption) ?rest4x16
          case hi4x16 => (simp only [List.getElem?_toArray, List.getElem?_cons_succ, List.getElem?_cons_zero]; exact rfl)
          case hf4x16 => kernel_rfl
          case hr4x16 => kernel_rfl
          case hy4x16 => (refine Or.inl ⟨by rfl, ?_⟩; intro w hSw; (try dsimp only at hSw); go_simp; try with_reducible rfl)
          simp only [put_mk, List.set_cons_succ, List.set_cons_zero]
          refine wpAnyH_take (i := 17) (oi := ?o4x17) (v := ?v4x17) ?hi4x17 (by kernel_rfl) ?hf4x17 ?hr4x17 (fun _ _ _ h => h) ?hy4x17 (by assumption) ?rest4x17
          case hi4x17 => (simp only [List.getElem?_toArray, List.getElem?_cons_succ, List.getElem?_cons_zero]; exact rfl)
          case hf4x17 => kernel_rfl
          case hr4x17 => kernel_rfl
          case hy4x17 => (refine Or.inl ⟨by rfl, ?_⟩; intro w hSw; (try dsimp only at hSw); go_simp; try with_reducible rfl)
          simp only [put_mk, List.set_cons_succ, List.set_cons_zero]
          refine wpAnyH_take (i := 18) (oi := ?o4x18) (v := ?v4x18) ?hi4x18 (by kernel_rfl) ?hf4x18 ?hr4x18 (fun _ _ _ h => h) ?hy4x18 (by assumption) ?rest4x18
          case hi4x18 => (simp only [List.getElem?_toArray, List.getElem?_cons_succ, List.getElem?_cons_zero]; exact rfl)
          case hf4x18 => kernel_rfl
          case hr4x18 => kernel_rfl
          case hy4x18 => (refine Or.inl ⟨by rfl, ?_⟩; intro w hSw; (try dsimp only at hSw); go_simp; try with_reducible rfl)
          simp only [put_mk, List.set_cons_succ, List.set_cons_zero]
          refine wpAnyH_take (i := 19) (oi := ?o4x19) (v := ?v4x19) ?hi4x19 (by kernel_rfl) ?hf4x19 ?hr4x19 (fun _ _ _ h => h) ?hy4x19 (by assumption) ?rest4x19
          case hi4x19 => (simp only [List.getElem?_toArray, List.getElem?_cons_succ, List.getElem?_cons_zero]; exact rfl)
          case hf4x19 => kernel_rfl
          case hr4x19 => kernel_rfl
          case hy4x19 => (refine Or.inl ⟨by rfl, ?_⟩; intro w hSw; (try dsimp only at hSw); go_simp; try with_reducible rfl)
          simp only [put_mk, List.set_cons_succ, List.set_cons_zero]
          refine wpAnyH_take (i := 20) (oi := ?o4x20) (v := ?v4x20) ?hi4x20 (by kernel_rfl) ?hf4x20 ?hr4x20 (fun _ _ _ h => h) ?hy4x20 (by assumption) ?rest4x20
          case hi4x20 => (simp only [List.getElem?_toArray, List.getElem?_cons_succ, List.getElem?_cons_zero]; exact rfl)
          case hf4x20 => kernel_rfl
          case hr4x20 => kernel_rfl
          case hy4x20 => (refine Or.inl ⟨by rfl, ?_⟩; intro w hSw; (try dsimp only at hSw); go_simp; try with_reducible rfl)
          simp only [put_mk, List.set_cons_succ, List.set_cons_zero]
          refine wpAnyH_take (i := 22) (oi := ?o4x22) (v := ?v4x22) ?hi4x22 (by kernel_rfl) ?hf4x22 ?hr4x22 (fun _ _ _ h => h) ?hy4x22 (by assumption) ?rest4x22
          case hi4x22 => (simp only [List.getElem?_toArray, List.getElem?_cons_succ, List.getElem?_cons_zero]; exact rfl)
          case hf4x22 => kernel_rfl
          case hr4x22 => kernel_rfl
          case hy4x22 => (refine Or.inl ⟨by rfl, ?_⟩; intro w hSw; (try dsimp only at hSw); go_simp; try with_reducible rfl)
          simp only [put_mk, List.set_cons_succ, List.set_cons_zero]
          refine wpAnyH_take (i := 23) (oi := ?o4x23) (v := ?v4x23) ?hi4x23 (by kernel_rfl) ?hf4x23 ?hr4x23 (fun _ _ _ h => h) ?hy4x23 (by assumption) ?rest4x23
          case hi4x23 => (simp only [List.getElem?_toArray, List.getElem?_cons_succ, List.getElem?_cons_zero]; exact rfl)
          case hf4x23 => kernel_rfl
          case hr4x23 => kernel_rfl
          case hy4x23 => (refine Or.inl ⟨by rfl, ?_⟩; intro w hSw; (try dsimp only at hSw); go_simp; try with_reducible rfl)
          simp only [put_mk, List.set_cons_succ, List.set_cons_zero]
          refine wpAnyH_take (i := 25) (oi := ?o4x25) (v := ?v4x25) ?hi4x25 (by kernel_rfl) ?hf4x25 ?hr4x25 (fun _ _ _ h => h) ?hy4x25 (by assumption) ?rest4x25
          case hi4x25 => (simp only [List.getElem?_toArray, List.getElem?_cons_succ, List.getElem?_cons_zero]; exact rfl)
          case hf4x25 => kernel_rfl
          case hr4x25 => kernel_rfl
          case hy4x25 => (refine Or.inl ⟨by rfl, ?_⟩; intro w hSw; (try dsimp only at hSw); go_simp; try with_reducible rfl)
          simp only [put_mk, List.set_cons_succ, List.set_cons_zero]
          refine wpAnyH_take (i := 26) (oi := ?o4x26) (v := ?v4x26) ?hi4x26 (by kernel_rfl) ?hf4x26 ?hr4x26 (fun _ _ _ h => h) ?hy4x26 (by assumption) ?rest4x26
          case hi4x26 => (simp only [List.getElem?_toArray, List.getElem?_cons_succ, List.getElem?_cons_zero]; exact rfl)
          case hf4x26 => kernel_rfl
          case hr4x26 => kernel_rfl
          case hy4x26 => (refine Or.inl ⟨by rfl, ?_⟩; intro w hSw; (try dsimp only at hSw); go_simp; try with_reducible rfl)
          simp only [put_mk, List.set_cons_succ, List.set_cons_zero]
          refine wpAnyH_take (i := 27) (oi := ?o4x27) (v := ?v4x27) ?hi4x27 (by kernel_rfl) ?hf4x27 ?hr4x27 (fun _ _ _ h => h) ?hy4x27 (by assumption) ?rest4x27
          case hi4x27 => (simp only [List.getElem?_toArray, List.getElem?_cons_succ, List.getElem?_cons_zero]; exact rfl)
          case hf4x27 => kernel_rfl
          case hr4x27 => kernel_rfl
          case hy4x27 => (refine Or.inl ⟨by rfl, ?_⟩; intro w hSw; (try dsimp only at hSw); go_simp; try with_reducible rfl)
          simp only [put_mk, List.set_cons_succ, List.set_cons_zero]
          refine wpAnyH_ready (rs := [5]) (by kernel_rfl) (by simp) ?_
          refine AllReadyH.cons (o := ?o4x5) ?hi4x5 (fun K hK => ?_) AllReadyH.nil
          case hi4x5 => (simp only [List.getElem?_toArray, List.getElem?_cons_succ, List.getElem?_cons_zero]; exact rfl)
          go_simp
          go_at_call 35
          refine ((HWi _ _ _ _).out).mono ?_
          rintro e wz ⟨rfl, hwz⟩
          subst wz
          refine hK.out _ _ ?_ (fun hHeld => ?_)
          · (repeat (first | exact Ext.refl _ | assumption | refine Ext.setCell ?_ (by first | (simp; done) | (simp; omega)) _ | refine Ext.drewN ?_ _ | refine Ext.alloc ?_ _ | refine Ext.drew ?_ | refine Ext.trans ?_ (by assumption)))
          clear hK K
          refine wpAnyH_take (i := 6) (oi := ?o4x6) (v := ?v4x6) ?hi4x6 (by kernel_rfl) ?hf4x6 ?hr4x6 (fun _ _ _ h => h) ?hy4x6 (by assumption) ?rest4x6
          case hi4x6 => (simp only [List.getElem?_toArray, List.getElem?_cons_succ, List.getElem?_cons_zero]; exact rfl)
          case hf4x6 => kernel_rfl
          case hr4x6 => kernel_rfl
          case hy4x6 => (refine Or.inl ⟨by rfl, ?_⟩; intro w hSw; (try dsimp only at hSw); go_simp; try with_reducible rfl)
          simp only [put_mk, List.set_cons_succ, List.set_cons_zero]
          refine wpAnyH_take (i := 7) (oi := ?o4x7) (v := ?v4x7) ?hi4x7 (by kernel_rfl) ?hf4x7 ?hr4x7 (fun _ _ _ h => h) ?hy4x7 (by assumption) ?rest4x7
          case hi4x7 => (simp only [List.getElem?_toArray, List.getElem?_cons_succ, List.getElem?_cons_zero]; exact rfl)
          case hf4x7 => kernel_rfl
          case hr4x7 => kernel_rfl
          case hy4x7 => (refine Or.inl ⟨by rfl, ?_⟩; intro w hSw; (try dsimp only at hSw); go_simp; try with_reducible rfl)
          simp only [put_mk, List.set_cons_succ, List.set_cons_zero]
          refine wpAnyH_take (i := 8) (oi := ?o4x8) (v := ?v4x8) ?hi4x8 (by kernel_rfl) ?hf4x8 ?hr4x8 (fun _ _ _ h => h) ?hy4x8 (by assumption) ?rest4x8
          case hi4x8 => (simp only [List.getElem?_toArray, List.getElem?_cons_succ, List.getElem?_cons_zero]; exact rfl)
          case hf4x8 => kernel_rfl
          case hr4x8 => kernel_rfl
          case hy4x8 => (refine Or.inl ⟨by rfl, ?_⟩; intro w hSw; (try dsimp only at hSw); go_simp; try with_reducible rfl)
          simp only [put_mk, List.set_cons_succ, List.set_cons_zero]
          refine wpAnyH_take (i := 9) (oi := ?o4x9) (v := ?v4x9) ?hi4x9 (by kernel_rfl) ?hf4x9 ?hr4x9 (fun _ _ _ h => h) ?hy4x9 (by assumption) ?rest4x9
          case hi4x9 => (simp only [List.getElem?_toArray, List.getElem?_cons_succ, List.getElem?_cons_zero]; exact rfl)
          case hf4x9 => kernel_rfl
          case hr4x9 => kernel_rfl
          case hy4x9 => (refine Or.inl ⟨by rfl, ?_⟩; intro w hSw; (try dsimp only at hSw); go_simp; try with_reducible rfl)
          simp only [put_mk, List.set_cons_succ, List.set_cons_zero]
          refine wpAnyH_take (i := 10) (oi := ?o4x10) (v := ?v4x10) ?hi4x10 (by kernel_rfl) ?hf4x10 ?hr4x10 (fun _ _ _ h => h) ?hy4x10 (by assumption) ?rest4x10
          case hi4x10 => (simp only [List.getElem?_toArray, List.getElem?_cons_succ, List.getElem?_cons_zero]; exact rfl)
          case hf4x10 => kernel_rfl
          case hr4x10 => kernel_rfl
          case hy4x10 => (refine Or.inl ⟨by rfl, ?_⟩; intro w hSw; (try dsimp only at hSw); go_simp; try with_reducible rfl)
          simp only [put_mk, List.set_cons_succ, List.set_cons_zero]
          refine wpAnyH_take (i := 11) (oi := ?o4x11) (v := ?v4x11) ?hi4x11 (by kernel_rfl) ?hf4x11 ?hr4x11 (fun _ _ _ h => h) ?hy4x11 (by assumption) ?rest4x11
          case hi4x11 => (simp only [List.getElem?_toArray, List.getElem?_cons_succ, List.getElem?_cons_zero]; exact rfl)
          case hf4x11 => kernel_rfl
          case hr4x11 => kernel_rfl
          case hy4x11 => (refine Or.inl ⟨by rfl, ?_⟩; intro w hSw; (try dsimp only at hSw); go_simp; try with_reducible rfl)
          simp only [put_mk, List.set_cons_succ, List.set_cons_zero]
          refine wpAnyH_ready (rs := [12]) (by kernel_rfl) (by simp) ?_
          refine AllReadyH.cons (o := ?o4x12) ?hi4x12 (fun K hK => ?_) AllReadyH.nil
          case hi4x12 => (simp only [List.getElem?_toArray, List.getElem?_cons_succ, List.getElem?_cons_zero]; exact rfl)
          go_simp
          go_at_call 35
          refine ((HWi _ _ _ _).out).mono ?_
          rintro e wz ⟨rfl, hwz⟩
          subst wz
          refine hK.out _ _ ?_ (fun hHeld => ?_)
          · (repeat (first | exact Ext.refl _ | assumption | refine Ext.setCell ?_ (by first | (simp; done) | (simp; omega)) _ | refine Ext.drewN ?_ _ | refine Ext.alloc ?_ _ | refine Ext.drew ?_ | refine Ext.trans ?_ (by assumption)))
          clear hK K
          refine wpAnyH_take (i := 13) (oi := ?o4x13) (v := ?v4x13) ?hi4x13 (by kernel_rfl) ?hf4x13 ?hr4x13 (fun _ _ _ h => h) ?hy4x13 (by assumption) ?rest4x13
          case hi4x13 => (simp only [List.getElem?_toArray, List.getElem?_cons_succ, List.getElem?_cons_zero]; exact rfl)
          case hf4x13 => kernel_rfl
          case hr4x13 => kernel_rfl
          case hy4x13 => (refine Or.inl ⟨by rfl, ?_⟩; intro w hSw; (try dsimp only at hSw); go_simp; try with_reducible rfl)
          simp only [put_mk, List.set_cons_succ, List.set_cons_zero]
          refine wpAnyH_take (i := 14) (oi := ?o4x14) (v := ?v4x14) ?hi4x14 (by kernel_rfl) ?hf4x14 ?hr4x14 (fun _ _ _ h => h) ?hy4x14 (by assumption) ?rest4x14
          case hi4x14 => (simp only [List.getElem?_toArray, List.getElem?_cons_succ, List.getElem?_cons_zero]; exact rfl)
          case hf4x14 => kernel_rfl
          case hr4x14 => kernel_rfl
          case hy4x14 => (refine Or.inl ⟨by rfl, ?_⟩; intro w hSw; (try dsimp only at hSw); go_simp; try with_reducible rfl)
          simp only [put_mk, List.set_cons_succ, List.set_cons_zero]
          refine wpAnyH_ready (rs := [15]) (by kernel_rfl) (by simp) ?_
          refine AllReadyH.cons (o := ?o4x15) ?hi4x15 (fun K hK => ?_) AllReadyH.nil
          case hi4x15 => (simp only [List.getElem?_toArray, List.getElem?_cons_succ, List.getElem?_cons_zero]; exact rfl)
          go_simp
          go_at_call 19
          refine ((HWh _ _ _).out).mono ?_
          rintro e wz ⟨rfl, hwz⟩
          subst wz
          refine hK.out _ _ ?_ (fun hHeld => ?_)
          · (repeat (first | exact Ext.refl _ | assumption | refine Ext.setCell ?_ (by first | (simp; done) | (simp; omega)) _ | refine Ext.drewN ?_ _ | refine Ext.alloc ?_ _ | refine Ext.drew ?_ | refine Ext.trans ?_ (by assumption)))
          clear hK K
          refine wpAnyH_ready (rs := [21]) (by kernel_rfl) (by simp) ?_
          refine AllReadyH.cons (o := ?o4x21) ?hi4x21 (fun K hK => ?_) AllReadyH.nil
          case hi4x21 => (simp only [List.getElem?_toArray, List.getElem?_cons_succ, List.getElem?_cons_zero]; exact rfl)
          go_simp
          go_at_call 19
          refine ((HWh _ _ _).out).mono ?_
          rintro e wz ⟨rfl, hwz⟩
          subst wz
          refine hK.out _ _ ?_ (fun hHeld => ?_)
          · (repeat (first | exact Ext.refl _ | assumption | refine Ext.setCell ?_ (by first | (simp; done) | (simp; omega)) _ | refine Ext.drewN ?_ _ | refine Ext.alloc ?_ _ | refine Ext.drew ?_ | refine Ext.trans ?_ (by assumption)))
          clear hK K
          refine wpAnyH_ready (rs := [24]) (by kernel_rfl) (by simp) ?_
          refine AllReadyH.cons (o := ?o4x24) ?hi4x24 (fun K hK => ?_) AllReadyH.nil
          case hi4x24 => (simp only [List.getElem?_toArray, List.getElem?_cons_succ, List.getElem?_cons_zero]; exact rfl)
          go_simp
          go_at_call 19
          refine ((HWh _ _ _).out).mono ?_
          rintro e wz ⟨rfl, hwz⟩
          subst wz
          refine hK.out _ _ ?_ (fun hHeld => ?_)
          · (repeat (first | exact Ext.refl _ | assumption | refine Ext.setCell ?_ (by first | (simp; done) | (simp; omega)) _ | refine Ext.drewN ?_ _ | refine Ext.alloc ?_ _ | refine Ext.drew ?_ | refine Ext.trans ?_ (by assumption)))
          clear hK K
          refine wpAnyH_ready (rs := [28]) (by kernel_rfl) (by simp) ?_
          refine AllReadyH.cons (o := ?o4x28) ?hi4x28 (fun K hK => ?_) AllReadyH.nil
          case hi4x28 => (simp only [List.getElem?_toArray, List.getElem?_cons_succ, List.getElem?_cons_zero]; exact rfl)
          go_simp
          go_at_call 19
          refine ((HWh _ _ _).out).mono ?_
          rintro e wz ⟨rfl, hwz⟩
          subst wz
          refine hK.out _ _ ?_ (fun hHeld => ?_)
          · (repeat (first | exact Ext.refl _ | assumption | refine Ext.setCell ?_ (by first | (simp; done) | (simp; omega)) _ | refine Ext.drewN ?_ _ | refine Ext.alloc ?_ _ | refine Ext.drew ?_ | refine Ext.trans ?_ (by assumption)))
          clear hK K
          refine wpAnyH_ready (rs := [29]) (by kernel_rfl) (by simp) ?_
          refine AllReadyH.cons (o := ?o4x29) ?hi4x29 (fun K hK => ?_) AllReadyH.nil
          case hi4x29 => (simp only [List.getElem?_toArray, List.getElem?_cons_succ, List.getElem?_cons_zero]; exact rfl)
          go_simp
          refine hK.out _ _ ?_ (fun hHeld => ?_)
          · (repeat (first | exact Ext.refl _ | assumption | refine Ext.setCell ?_ (by first | (simp; done) | (simp; omega)) _ | refine Ext.drewN ?_ _ | refine Ext.alloc ?_ _ | refine Ext.drew ?_ | refine Ext.trans ?_ (by assumption)))
          clear hK K
          refine wpAnyH_ready (rs := [30]) (by kernel_rfl) (by simp) ?_
          refine AllReadyH.cons (o := ?o4x30) ?hi4x30 (fun K hK => ?_) AllReadyH.nil
          case hi4x30 => (simp only [List.getElem?_toArray, List.getElem?_cons_succ, List.getElem?_cons_zero]; exact rfl)
          go_simp
          go_at_call 17
          refine ((HS5 _ _ _ _ _ _ _ ((Rd.new (by first | rfl | simp) (by first | rfl | simp)).ext (Ext.drew (Ext.refl _)))).out).mono ?_
          rintro e wz ⟨rfl, hwz⟩
          subst wz
          refine hK.out _ _ ?_ (fun hHeld => ?_)
          · (repeat (first | exact Ext.refl _ | assumption | refine Ext.setCell ?_ (by first | (simp; done) | (simp; omega)) _ | refine Ext.drewN ?_ _ | refine Ext.alloc ?_ _ | refine Ext.drew ?_ | refine Ext.trans ?_ (by assumption)))
          clear hK K
          refine wpAnyH_take (i := 31) (oi := ?o4x31) (v := ?v4x31) ?hi4x31 (by kernel_rfl) ?hf4x31 ?hr4x31 (fun _ _ _ h => h) ?hy4x31 (by assumption) ?rest4x31
          case hi4x31 => (simp only [List.getElem?_toArray, List.getElem?_cons_succ, List.getElem?_cons_zero]; exact rfl)
          case hf4x31 => kernel_rfl
          case hr4x31 => kernel_rfl
          case hy4x31 => (refine Or.inl ⟨by rfl, ?_⟩; intro w hSw; (try dsimp only at hSw); go_simp; try with_reducible rfl)
          simp only [put_mk, List.set_cons_succ, List.set_cons_zero]
          refine wpAnyH_done (by kernel_rfl) ?_ _
          refine NoPanic.normal ?_
          have hend := hidA (hx1.trans hHeld)
          rw [hwa] at HJ2
          clear hx1 hHeld r0 r1 r3 kR
          go_wp2
          go_roundw
          case rel => exact ⟨i + 1, _, Hin.out, (by first | rfl | go_num), rfl, HJ2.out, hend.out⟩
          case measure => exact nxt_c Hin.out
    · obtain rfl : i = n := by omega
      have hu := hJ.fin Hn.out
      subst hu
      have hend := hxa.trans hx
      have HSx : ∀ (B : Option Addr) (w : World), Rd w B [.int .i64 (roadsE (N : Int) l), .int .i64 (whenI (!withI (src : Int) 0 m1) 11)] → Hid (Calls Try.prog 17 #[.slice B 2 2] w fun e w' => e = .returned (.int .i64 0) ∧ w = w') := fun B w h => by
        have h9 := first_any B 2 2 [roadsE (N : Int) l, whenI (!withI (src : Int) 0 m1) 11] w rfl h (by omega)
        rw [HTf] at h9
        exact hidA h9
      clear hJ hi hin HTf HS2 HS5
      generalize roadsE (N : Int) l = T0 at *
      go_upto_region 13 with (first | (go_at_call 35; refine ((HWi _ _ _ _).out).mono ?_; rintro e w7 ⟨rfl, hw7⟩; subst hw7) | (go_at_call 19; refine ((HWh _ _ _).out).mono ?_; rintro e w7 ⟨rfl, hw7⟩; subst hw7) | (go_at_call 17; refine ((HSx _ _ (Rd.new (by first | rfl | simp) (by first | rfl | simp))).out).mono ?_; rintro e w8 ⟨rfl, hw8⟩; subst hw8) | (go_at_call 15; refine ((HL _).out).mono ?_; rintro e w4 ⟨rfl, hx4⟩) | (go_at_call 45; refine ((HO _ (by repeat (first | exact Ext.refl _ | assumption | refine Ext.setCell ?_ (by first | (simp; done) | (simp; omega)) _ | refine Ext.drewN ?_ _ | refine Ext.alloc ?_ _ | refine Ext.drew ?_ | refine Ext.trans ?_ (by assumption)))).out).mono ?_; rintro e w5 ⟨go2, gs2, is2, v2, rfl, c1, c2, kO2, kS2, hTL2, hx5⟩))
      have hxe : Ext wa w5 := (by repeat (first | exact Ext.refl _ | assumption | refine Ext.setCell ?_ (by first | (simp; done) | (simp; omega)) _ | refine Ext.drewN ?_ _ | refine Ext.alloc ?_ _ | refine Ext.drew ?_ | refine Ext.trans ?_ (by assumption)))
      have kO1 := HKOa.out.ext hxe
      have kS1 := HKSa.out.ext hxe
      have hun := fun k (hk : k < N) => HTL.out.unique hTL2 hk
      rw [flo_congrT (f := v2) (g := v) (fun k hk => (hun k hk).2.symm)] at kO2
      rw [bools_congrT (f := is2) (g := is) (fun k hk => (hun k hk).1.symm)] at kS2
      have Hend := hidA (show Ext w w5 from (by repeat (first | exact Ext.refl _ | assumption | refine Ext.setCell ?_ (by first | (simp; done) | (simp; omega)) _ | refine Ext.drewN ?_ _ | refine Ext.alloc ?_ _ | refine Ext.drew ?_ | refine Ext.trans ?_ (by assumption))))
      have HEf := fun (w' : World) (h : Ext w5 w') => hidA (eqFlo_same (some ⟨go, 0, none⟩) (some ⟨go2, 0, none⟩) N N N ((List.range N).map v) ((List.range N).map v) w' (by simp) (by simp) (rd_floT (kO1.ext h)) (rd_floT (kO2.ext h)) (by have := HN24.out; omega) (fun k h1 h2 => by
        have hk : k < N := by simpa using h1
        simp only [List.getElem_map, List.getElem_range]
        rw [sum_eq (HTL.out.s.ob k hk)]
        rfl))
      have HEb := fun (w' : World) (h : Ext w5 w') => hidA (eqBo_sameT gs gs2 N is w' (kS1.ext h) (kS2.ext h) (by have := HN24.out; omega))
      clear hun hTL2 kO1 kS1 kO2 kS2 hxe hx5 hx4 hx c1 c2
      go_wp2_with (first | (go_at_call 46; refine ((HEf _ (Ext.refl _)).out).mono ?_; rintro e w6 ⟨rfl, hx6⟩) | (go_at_call 31; refine ((HEb _ (by repeat (first | exact Ext.refl _ | assumption | refine Ext.setCell ?_ (by first | (simp; done) | (simp; omega)) _ | refine Ext.drewN ?_ _ | refine Ext.alloc ?_ _ | refine Ext.drew ?_ | refine Ext.trans ?_ (by assumption)))).out).mono ?_; rintro e w7 ⟨rfl, hx7⟩))
      go_ret
      exact ⟨by first | rfl | simp, Hend.out.trans (by repeat (first | exact Ext.refl _ | assumption | refine Ext.setCell ?_ (by first | (simp; done) | (simp; omega)) _ | refine Ext.drewN ?_ _ | refine Ext.alloc ?_ _ | refine Ext.drew ?_ | refine Ext.trans ?_ (by assumption)))⟩
theorem trips_walk (many src : Int) (A : Option Addr) (n c : Nat) (l : List RoR) (w : World) (hn : l.length = n) (hV : Rd w A (rocells l)) (hn4 : n ≤ 140737488355328) :
    Calls Try.prog 10 #[.int .i64 many, .slice A n c, .int .i64 src] w fun e w' => e = .returned (.bool true) ∧ Ext w w' := by
  by_cases hE : tripE many l src = 0
  · have hT : roadsE many l = 0 := by
      unfold tripE at hE
      split at hE
      · assumption
      · rename_i h; simpa using h
    have h1 : 1 ≤ many := by
      have h2 := hT
      unfold roadsE at h2
      split at h2
      · cases h2
      · omega
    have hs : 0 ≤ src ∧ src < many := by
      unfold tripE at hE
      rw [if_neg (by simpa using hT)] at hE
      split at hE
      · cases hE
      · omega
    obtain ⟨N, rfl⟩ : ∃ N : Nat, many = N := ⟨many.toNat, by omega⟩
    obtain ⟨s, rfl⟩ : ∃ s : Nat, src = s := ⟨src.toNat, by omega⟩
    exact trips_good N s A n c l w hn hV hn4 hT (by omega)
  · exact trips_bad many src A n c l w hn hV hn4 hE
end Go.Proofs.Ytpgdinpckolfpaa
