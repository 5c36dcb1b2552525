/- The walk of the law PacksMatch. -/
import Derived.Test.YtdfegkpdnofdoaaPackE
import Derived.Test.YtdfegkpdnofdoaaWritesC
import Derived.Test.YtdfegkpdnofdoaaBaseA
namespace Go.Proofs.Ytdfegkpdnofdoaa
open Go.RowKit
attribute [local go_sem ↓] Go.wp_at_zero Go.wp_at_succ

/-- the error that is wanted, after k numbers -/
def wantP (E0 : Int) (q : List Int) (k : Nat) : Int := if E0 ≠ 0 then E0 else if ∃ j, j < k ∧ (q.getD j 0 < -1099511627776 ∨ 1099511627776 < q.getD j 0) then 3 else 0
theorem wantP_zero (E0 : Int) (q : List Int) : wantP E0 q 0 = E0 := by
  unfold wantP
  by_cases h : E0 = 0
  · rw [if_neg (by simpa using h), if_neg (by rintro ⟨j, h1, _⟩; omega), h]
  · rw [if_pos h]
theorem first_twoP (a b : Int) : firstE [a, b] = if a ≠ 0 then a else b := by
  by_cases ha : a = 0
  · by_cases hb : b = 0 <;> simp [firstE, ha, hb]
  · simp [firstE, ha]
theorem wantP_nil (q : List Int) (k : Nat) : wantP 0 q k = if ∃ j, j < k ∧ (q.getD j 0 < -1099511627776 ∨ 1099511627776 < q.getD j 0) then 3 else 0 := by
  unfold wantP
  rw [if_neg (by decide)]
theorem wantP_old {E0 : Int} (h : E0 ≠ 0) (q : List Int) (k : Nat) : wantP E0 q k = E0 := by unfold wantP; rw [if_pos h]
theorem wantP_next (E0 : Int) (q : List Int) (k : Nat) : firstE [wantP E0 q k, if (!(decide (-1099511627776 ≤ q.getD k 0) && decide (q.getD k 0 ≤ 1099511627776))) = true then 3 else 0] = wantP E0 q (k + 1) := by
  rw [first_twoP]
  by_cases h : E0 = 0
  · subst h
    have hz : (if (!(decide (-1099511627776 ≤ q.getD k 0) && decide (q.getD k 0 ≤ 1099511627776))) = true then (3 : Int) else 0) = if q.getD k 0 < -1099511627776 ∨ 1099511627776 < q.getD k 0 then 3 else 0 := by
      generalize q.getD k 0 = n
      by_cases h : n < -1099511627776 ∨ 1099511627776 < n
      · have h2 : (!(decide (-1099511627776 ≤ n) && decide (n ≤ 1099511627776))) = true := by
          by_cases h4 : -1099511627776 ≤ n <;> by_cases h5 : n ≤ 1099511627776 <;> simp [h4, h5] <;> omega
        rw [if_pos h, if_pos h2]
      · have h2 : ¬ (!(decide (-1099511627776 ≤ n) && decide (n ≤ 1099511627776))) = true := by
          have h4 : -1099511627776 ≤ n := by omega
          have h5 : n ≤ 1099511627776 := by omega
          simp [h4, h5]
        rw [if_neg h, if_neg h2]
    rw [hz, wantP_nil, wantP_nil]
    by_cases h1 : ∃ j, j < k ∧ (q.getD j 0 < -1099511627776 ∨ 1099511627776 < q.getD j 0)
    · obtain ⟨j, h2, h3⟩ := h1
      have hA : (if ∃ j, j < k ∧ (q.getD j 0 < -1099511627776 ∨ 1099511627776 < q.getD j 0) then (3 : Int) else 0) = 3 := if_pos ⟨j, h2, h3⟩
      rw [hA, if_pos (by decide), if_pos ⟨j, by omega, h3⟩]
    · have hA : (if ∃ j, j < k ∧ (q.getD j 0 < -1099511627776 ∨ 1099511627776 < q.getD j 0) then (3 : Int) else 0) = 0 := if_neg h1
      rw [hA, if_neg (by decide)]
      by_cases h2 : q.getD k 0 < -1099511627776 ∨ 1099511627776 < q.getD k 0
      · rw [if_pos h2, if_pos ⟨k, by omega, h2⟩]
      · rw [if_neg h2, if_neg]
        rintro ⟨j, h3, h4⟩
        by_cases e : j = k
        · subst e; exact h2 h4
        · exact h1 ⟨j, by omega, h4⟩
  · rw [wantP_old h, wantP_old h, if_pos h]
theorem wantP_end (q : List Int) : wantP (if 65536 < q.length then 4 else 0) q q.length = packE q := by
  unfold wantP packE
  by_cases h : 65536 < q.length
  · rw [if_pos h, if_pos h, if_pos (by decide)]
  · rw [if_neg h, if_neg h, if_neg (by decide)]
theorem unp_len : ∀ (bs : List UInt8) (m k : Nat) (out L : List Int), unp bs m k out = some L → L.length ≤ out.length + bs.length
  | [], m, k, out, L, h => by
    rw [unp] at h
    split at h
    · injection h with h
      rw [h]
      simp
    · cases h
  | b :: t, m, k, out, L, h => by
    rw [unp] at h
    split at h
    · cases h
    · split at h
      · have := unp_len t _ _ _ _ h
        simp only [List.length_cons]
        omega
      · split at h
        · cases h
        · have := unp_len t _ _ _ _ h
          simp only [List.length_cons, List.length_append, List.length_nil] at this ⊢
          omega
set_option maxRecDepth 100000 in
set_option maxHeartbeats 1600000 in
theorem eqI_same (A B : Option Addr) (n c d : Nat) (q : List Int) (w : World) (hn : q.length = n) (ha : Rd w A (iL q)) (hb : Rd w B (iL q)) (hnb : n ≤ 4000000) :
    Calls Try.prog 40 #[.slice A n c, .slice B n d] w fun e w' => e = .returned (.bool true) ∧ Ext w w' := by
  have Hn := hidA hn
  clear hn
  go_enter Try.func40, Try.ntmps40
  go_wp2
  go_loopw [13] (fun i wr => ∃ k m : Nat, k ≤ n ∧ i = .int .i64 k ∧ wr = w.drewN m) (fun i _ => n - (intOf i).toNat)
  case atStart => exact ⟨0, 0, Nat.zero_le _, rfl, rfl⟩
  case round =>
    obtain ⟨k, m, hk, rfl, rfl⟩ := hrel
    by_cases hlt : k < n
    · have hkl : k < q.length := by have := Hn.out; omega
      obtain ⟨ad, rfl, hbk, hc⟩ := ha.at (k := k) (by simpa [iL] using hkl)
      obtain ⟨ad2, rfl, hbk2, hc2⟩ := hb.at (k := k) (by simpa [iL] using hkl)
      have e0 := hc k (.int .i64 q[k]) (by simp [iL, hkl])
      have e2 := hc2 k (.int .i64 q[k]) (by simp [iL, hkl])
      generalize q[k] = va at *
      have k0 : (0 : Int) ≤ k := by omega
      have k1 : (k : Int) < n := by omega
      clear ha hb hc hc2
      go_wp2
      go_quiet (fail)
      go_wp2
      go_roundw
      case rel => exact ⟨k + 1, _, by omega, by go_num, rfl⟩
      case measure => simp [intOf]; omega
    · obtain rfl : k = n := by omega
      go_wp2
      go_ret
      exact ⟨rfl, (by repeat (first | exact Ext.refl _ | assumption | refine Ext.setCell ?_ (by first | (simp; done) | (simp; omega)) _ | refine Ext.drewN ?_ _ | refine Ext.alloc ?_ _ | refine Ext.drew ?_ | refine Ext.trans ?_ (by assumption)))⟩
set_option maxRecDepth 100000 in
set_option maxHeartbeats 12800000 in
theorem packs_walk (A : Option Addr) (n c : Nat) (q : List Int) (bs : List UInt8) (w : World) (hq : q.length = n) (hR : Rd w A (iL q)) (hb : n ≤ 140737488351232) :
    Calls Try.prog 7 #[.slice A n c, .string (strB bs)] w fun e w' => e = .returned (.bool true) ∧ Ext w w' := by
  subst hq
  have HWh := fun (b : Bool) (x : Int) (w : World) => hidA (when_any b x w)
  have HWi := fun (x : Int) (w : World) => hidA (within_any x (-1099511627776) 1099511627776 w)
  have HS := fun (x y : Int) (B : Option Addr) (w : World) (h : Rd w B ([x, y].map (.int .i64))) => hidA (first_any B 2 2 [x, y] w rfl h (by omega))
  have HW := fun (w : World) => hidA (writes_any w)
  have hsz := strB_size bs
  have hE0 : (if (65536 : Int) < (q.length : Int) then (4 : Int) else 0) = if 65536 < q.length then 4 else 0 := by
    by_cases h : 65536 < q.length
    · rw [if_pos (by omega), if_pos h]
    · rw [if_neg (by omega), if_neg h]
  have hend := wantP_end q
  obtain ⟨E0, hE⟩ : ∃ E0, E0 = if 65536 < q.length then (4 : Int) else 0 := ⟨_, rfl⟩
  rw [← hE] at hE0 hend
  have HE0 := hidA hE0
  have Hend1 := hidA hend
  clear hE0 hE hend
  by_cases hE : packE q = 0
  · have HP := fun (w' : World) (h : Ext w w') => hidA (Pack_ok A q.length c q w' rfl (hR.ext h) hb hE)
    obtain ⟨hn6, hqb⟩ := packE_get rfl hE
    have HPk := fun (w' : World) (h : Ext w w') => hidA (packed_any A q.length c q w' rfl (hR.ext h) hn6 hqb)
    have hpl : (packL q).length ≤ 4194304 := by
      have h1 := packL_len (packE_zero hE).2
      omega
    have HUq := fun (w' : World) => hidA (Unpack_any (packL q) w' hpl)
    rw [unp_pack q [] (packE_zero hE).2] at HUq
    unfold UnpR at HUq
    simp only [List.nil_append, if_pos hE] at HUq
    rw [hE] at Hend1
    have hHqn := hidA (show q.length ≤ 4000000 by omega)
    clear hE hqb hpl
    generalize strB (packL q) = sP at *
    go_enter Try.func7, Try.ntmps7
    go_upto_region 2 with (go_at_call 37; refine ((HP _ (Ext.refl _)).out).mono ?_; rintro e w1 ⟨rfl, hx1⟩)
    have hR1 := hR.ext hx1
    go_upto_region 3 with (go_at_call 19; refine ((HWh _ _ _).out).mono ?_; rintro e w2 ⟨rfl, rfl⟩)
    simp only [HE0.out]
    go_wp2_with fail
    go_loopw [7, 29] (fun s7 s29 wr => ∃ k : Nat, k ≤ q.length ∧ s29 = .int .i64 k ∧ s7 = .int .i64 (wantP E0 q k) ∧ Ext w1 wr) (fun _ s29 _ => q.length - (intOf s29).toNat)
    case atStart => exact ⟨0, Nat.zero_le _, rfl, by rw [wantP_zero], Ext.refl _⟩
    case round =>
      obtain ⟨k, hk, rfl, rfl, hx⟩ := hrel
      by_cases hkn : k < q.length
      · have hkq : k < q.length := by first | exact hkn | (rw [Hq.out]; exact hkn)
        obtain ⟨ad, rfl, hbk, hcv⟩ := (Rd.ext hR1 hx).at (k := k) (by simpa [iL] using hkq)
        have ck : wr.cell? (ad.add k) = some (.int .i64 (q.getD k 0)) := hcv k _ (by simp [iL, hkq, List.getD_eq_getElem?_getD])
        have hnext := wantP_next E0 q k
        generalize q.getD k 0 = z at *
        have HWz := fun w => HWi z w
        clear hcv hkq
        generalize wantP E0 q k = a at *
        generalize hzz : wantP E0 q (k + 1) = a2 at *
        have Hzz := hidA hzz
        clear hzz
        have i0 : (0 : Int) ≤ k := by omega
        have i1 : (k : Int) < q.length := by omega
        cases hbb : (decide (-1099511627776 ≤ z) && decide (z ≤ 1099511627776))
        all_goals
          rw [hbb] at hnext
          rw [hbb] at HWz
          simp only [Bool.not_true, Bool.not_false, if_true, if_false, Bool.false_eq_true] at hnext
          have Hnext := hidA hnext
          clear hbb hnext
          go_wp2_with (first | (go_at_call 20; refine ((HWz _).out).mono ?_; rintro e w6 ⟨rfl, rfl⟩) | (go_at_call 19; refine ((HWh _ _ _).out).mono ?_; rintro e w7 ⟨rfl, rfl⟩) | (go_at_call 9; refine ((HS _ _ _ _ (Rd.new (by first | rfl | simp) (by first | rfl | simp))).out).mono ?_; rintro e w8 ⟨rfl, hx8⟩))
          have hx9 : Ext w1 w8 := hx.trans (by rw [← hx8]; (repeat (first | exact Ext.refl _ | assumption | refine Ext.setCell ?_ (by first | (simp; done) | (simp; omega)) _ | refine Ext.drewN ?_ _ | refine Ext.alloc ?_ _ | refine Ext.drew ?_ | refine Ext.trans ?_ (by assumption))))
          go_roundw
          case rel => exact ⟨k + 1, by omega, by go_num, by rw [Hnext.out, Hzz.out], hx9⟩
          case measure => simp [intOf]; omega
      · have hkn' : k = q.length := by omega
        subst hkn'
        rw [Hend1.out]
        have Hx1 := hidA (hx1.trans hx)
        clear hx
        go_upto_region 11 with (first | (go_at_call 12; refine ((HW _).out).mono ?_; rintro e w10 ⟨rfl, hx10⟩) | (go_at_call 38; refine ((HPk _ (Hx1.out.trans (hx10.trans (by repeat (first | exact Ext.refl _ | assumption | refine Ext.setCell ?_ (by first | (simp; done) | (simp; omega)) _ | refine Ext.drewN ?_ _ | refine Ext.alloc ?_ _ | refine Ext.drew ?_ | refine Ext.trans ?_ (by assumption)))))).out).mono ?_; rintro e w11 ⟨rfl, hx11⟩))
        go_upto_region 12 with (go_at_call 39; refine ((HUq _).out).mono ?_; rintro e w12 ⟨⟨vU, rfl, hoU⟩, hx12⟩)
        obtain ⟨UA, uc, hv⟩ := hoU.form
        subst hv
        have Hx12 := hidA (((Hx1.out.trans hx10).trans hx11).trans hx12)
        have HQ := fun (w' : World) (h : Ext w12 w') => hidA (eqI_same A UA q.length c uc q w' rfl (hR.ext (Hx12.out.trans h)) (Rd.of_own (OwnL.ext hoU h)) hHqn.out)
        clear hx10 hx11 hx12 hoU HUq HPk HP
        go_upto_region 14 with (go_at_call 40; refine ((HQ _ (Ext.refl _)).out).mono ?_; rintro e w13 ⟨rfl, hx13⟩)
        have Hxz := hidA (Hx12.out.trans hx13)
        clear hx13 HQ
        by_cases hl5 : 5000 < bs.length
        · have hl5' : (5000 : Int) < (bs.length : Int) := by omega
          go_wp2_with fail
          go_ret
          exact ⟨by first | rfl | simp, Hxz.out⟩
        · have hl5' : ¬ ((5000 : Int) < (bs.length : Int)) := by omega
          have HSp := fun (w : World) => hidA (sumP_any bs w (by omega))
          have HSr := fun (w : World) => hidA (sumR_any bs w (by omega))
          have HU := fun (w : World) => hidA (Unpack_any bs w (by omega))
          have HV := fun (w : World) => hidA (Unpacked_any bs w (by omega))
          have hlen := hidA (fun L (h : unp bs 0 0 [] = some L) => unp_len bs 0 0 [] L h)
          go_upto_region 16 with (first | (go_at_call 41; refine ((HSp _).out).mono ?_; rintro e w16 ⟨rfl, hw16⟩; rw [hw16]; clear hw16 w16) | (go_at_call 42; refine ((HSr _).out).mono ?_; rintro e w17 ⟨rfl, hw17⟩; rw [hw17]; clear hw17 w17))
          cases hun : unp bs 0 0 [] with
          | none =>
            rw [hun] at HU HV
            unfold UnpR at HU
            unfold UnrR at HV
            dsimp only at HU HV
            clear hlen hun
            go_wp2_with (first | (go_at_call 39; refine ((HU _).out).mono ?_; rintro e w20 ⟨rfl, hx20⟩) | (go_at_call 43; refine ((HV _).out).mono ?_; rintro e w21 ⟨rfl, hx21⟩) | (go_at_call 19; refine ((HWh _ _ _).out).mono ?_; rintro e w22 ⟨rfl, rfl⟩))
            go_loopw [7, 113] (fun s7 s113 wr => s7 = .int .i64 2 ∧ s113 = .int .i64 0 ∧ Ext w13 wr) (fun _ _ _ => 0)
            case atStart => exact ⟨rfl, rfl, hx20.trans hx21⟩
            case round =>
              obtain ⟨rfl, rfl, hx⟩ := hrel
              go_wp2_with fail
              go_ret
              exact ⟨by first | rfl | simp, Hxz.out.trans hx⟩
          | some L =>
            rw [hun] at HU HV
            unfold UnpR at HU
            unfold UnrR at HV
            dsimp only at HU HV
            have hLl : L.length ≤ 5000 := by have := hlen.out L hun; simp at this; omega
            have hend : wantP 0 L L.length = packE L := by
              have h := wantP_end L
              rwa [if_neg (by omega)] at h
            clear hlen hun
            by_cases hE2 : packE L = 0
            · simp only [if_pos hE2] at HU
              rw [hE2] at hend
              have Hend := hidA hend
              clear hE2 hend
              go_upto_region 17 with (go_at_call 39; refine ((HU _).out).mono ?_; rintro e w20 ⟨⟨vU, rfl, hoU⟩, hx20⟩)
              go_upto_region 18 with (go_at_call 43; refine ((HV _).out).mono ?_; rintro e w21 ⟨⟨vR, rfl, hoR⟩, hx21⟩)
              obtain ⟨UA, uc, hv⟩ := hoU.form
              subst hv
              obtain ⟨LA, lc, hv⟩ := hoR.form
              subst hv
              have hRL := Rd.of_own hoR
              have Hx21 := hidA (Hxz.out.trans (hx20.trans hx21))
              have HQ := fun (w' : World) (h : Ext w21 w') => hidA (eqI_same UA LA L.length uc lc L w' rfl (Rd.of_own (OwnL.ext hoU (hx21.trans h))) ((Rd.of_own hoR).ext h) (by omega))
              clear hoU hoR hx20 hx21 HU HV HSp HSr
              go_wp2_with (go_at_call 19; refine ((HWh _ _ _).out).mono ?_; rintro e w22 ⟨rfl, rfl⟩)
              go_loopw [7, 113] (fun s7 s113 wr => ∃ k : Nat, k ≤ L.length ∧ s113 = .int .i64 k ∧ s7 = .int .i64 (wantP 0 L k) ∧ Ext w21 wr) (fun _ s113 _ => L.length - (intOf s113).toNat)
              case atStart => exact ⟨0, Nat.zero_le _, rfl, by rw [wantP_zero], Ext.refl _⟩
              case round =>
                obtain ⟨k, hk, rfl, rfl, hx⟩ := hrel
                by_cases hkn : k < L.length
                · have hkq : k < L.length := by first | exact hkn | (rw [Hq.out]; exact hkn)
                  obtain ⟨ad, rfl, hbk, hcv⟩ := (Rd.ext hRL hx).at (k := k) (by simpa [iL] using hkq)
                  have ck : wr.cell? (ad.add k) = some (.int .i64 (L.getD k 0)) := hcv k _ (by simp [iL, hkq, List.getD_eq_getElem?_getD])
                  have hnext := wantP_next 0 L k
                  generalize L.getD k 0 = z at *
                  have HWz := fun w => HWi z w
                  clear hcv hkq
                  generalize wantP 0 L k = a at *
                  generalize hzz : wantP 0 L (k + 1) = a2 at *
                  have Hzz := hidA hzz
                  clear hzz
                  have i0 : (0 : Int) ≤ k := by omega
                  have i1 : (k : Int) < L.length := by omega
                  cases hbb : (decide (-1099511627776 ≤ z) && decide (z ≤ 1099511627776))
                  all_goals
                    rw [hbb] at hnext
                    rw [hbb] at HWz
                    simp only [Bool.not_true, Bool.not_false, if_true, if_false, Bool.false_eq_true] at hnext
                    have Hnext := hidA hnext
                    clear hbb hnext
                    go_wp2_with (first | (go_at_call 20; refine ((HWz _).out).mono ?_; rintro e w6 ⟨rfl, rfl⟩) | (go_at_call 19; refine ((HWh _ _ _).out).mono ?_; rintro e w7 ⟨rfl, rfl⟩) | (go_at_call 9; refine ((HS _ _ _ _ (Rd.new (by first | rfl | simp) (by first | rfl | simp))).out).mono ?_; rintro e w8 ⟨rfl, hx8⟩))
                    have hx9 : Ext w21 w8 := hx.trans (by rw [← hx8]; (repeat (first | exact Ext.refl _ | assumption | refine Ext.setCell ?_ (by first | (simp; done) | (simp; omega)) _ | refine Ext.drewN ?_ _ | refine Ext.alloc ?_ _ | refine Ext.drew ?_ | refine Ext.trans ?_ (by assumption))))
                    go_roundw
                    case rel => exact ⟨k + 1, by omega, by go_num, by rw [Hnext.out, Hzz.out], hx9⟩
                    case measure => simp [intOf]; omega
                · have hkn' : k = L.length := by omega
                  subst hkn'
                  rw [Hend.out]
                  go_wp2_with (go_at_call 40; refine ((HQ _ hx).out).mono ?_; rintro e w30 ⟨rfl, hx30⟩)
                  go_ret
                  exact ⟨by first | rfl | simp, Hx21.out.trans (hx.trans hx30)⟩
            · simp only [if_neg hE2] at HU
              have hne2 : (packE L != 0) = true := by simpa using hE2
              generalize packE L = E2 at *
              have Hend := hidA hend
              clear hE2 hend
              go_upto_region 17 with (go_at_call 39; refine ((HU _).out).mono ?_; rintro e w20 ⟨rfl, hx20⟩)
              go_upto_region 18 with (go_at_call 43; refine ((HV _).out).mono ?_; rintro e w21 ⟨⟨vR, rfl, hoR⟩, hx21⟩)
              obtain ⟨LA, lc, hv⟩ := hoR.form
              subst hv
              have hRL := Rd.of_own hoR
              have Hx21 := hidA (Hxz.out.trans (hx20.trans hx21))
              clear hoR hx20 hx21 HU HV HSp HSr
              go_wp2_with (go_at_call 19; refine ((HWh _ _ _).out).mono ?_; rintro e w22 ⟨rfl, rfl⟩)
              go_loopw [7, 113] (fun s7 s113 wr => ∃ k : Nat, k ≤ L.length ∧ s113 = .int .i64 k ∧ s7 = .int .i64 (wantP 0 L k) ∧ Ext w21 wr) (fun _ s113 _ => L.length - (intOf s113).toNat)
              case atStart => exact ⟨0, Nat.zero_le _, rfl, by rw [wantP_zero], Ext.refl _⟩
              case round =>
                obtain ⟨k, hk, rfl, rfl, hx⟩ := hrel
                by_cases hkn : k < L.length
                · have hkq : k < L.length := by first | exact hkn | (rw [Hq.out]; exact hkn)
                  obtain ⟨ad, rfl, hbk, hcv⟩ := (Rd.ext hRL hx).at (k := k) (by simpa [iL] using hkq)
                  have ck : wr.cell? (ad.add k) = some (.int .i64 (L.getD k 0)) := hcv k _ (by simp [iL, hkq, List.getD_eq_getElem?_getD])
                  have hnext := wantP_next 0 L k
                  generalize L.getD k 0 = z at *
                  have HWz := fun w => HWi z w
                  clear hcv hkq
                  generalize wantP 0 L k = a at *
                  generalize hzz : wantP 0 L (k + 1) = a2 at *
                  have Hzz := hidA hzz
                  clear hzz
                  have i0 : (0 : Int) ≤ k := by omega
                  have i1 : (k : Int) < L.length := by omega
                  cases hbb : (decide (-1099511627776 ≤ z) && decide (z ≤ 1099511627776))
                  all_goals
                    rw [hbb] at hnext
                    rw [hbb] at HWz
                    simp only [Bool.not_true, Bool.not_false, if_true, if_false, Bool.false_eq_true] at hnext
                    have Hnext := hidA hnext
                    clear hbb hnext
                    go_wp2_with (first | (go_at_call 20; refine ((HWz _).out).mono ?_; rintro e w6 ⟨rfl, rfl⟩) | (go_at_call 19; refine ((HWh _ _ _).out).mono ?_; rintro e w7 ⟨rfl, rfl⟩) | (go_at_call 9; refine ((HS _ _ _ _ (Rd.new (by first | rfl | simp) (by first | rfl | simp))).out).mono ?_; rintro e w8 ⟨rfl, hx8⟩))
                    have hx9 : Ext w21 w8 := hx.trans (by rw [← hx8]; (repeat (first | exact Ext.refl _ | assumption | refine Ext.setCell ?_ (by first | (simp; done) | (simp; omega)) _ | refine Ext.drewN ?_ _ | refine Ext.alloc ?_ _ | refine Ext.drew ?_ | refine Ext.trans ?_ (by assumption))))
                    go_roundw
                    case rel => exact ⟨k + 1, by omega, by go_num, by rw [Hnext.out, Hzz.out], hx9⟩
                    case measure => simp [intOf]; omega
                · have hkn' : k = L.length := by omega
                  subst hkn'
                  rw [Hend.out]
                  go_wp2_with fail
                  go_ret
                  exact ⟨by first | rfl | simp, Hx21.out.trans hx⟩
  · have HP := fun (w' : World) (h : Ext w w') => hidA (Pack_bad A q.length c q w' rfl (hR.ext h) hb hE)
    have hne : (packE q != 0) = true := by simpa using hE
    have hE' : ¬ (packE q = 0) := hE
    generalize packE q = E at *
    clear hE
    go_enter Try.func7, Try.ntmps7
    go_upto_region 2 with (go_at_call 37; refine ((HP _ (Ext.refl _)).out).mono ?_; rintro e w1 ⟨rfl, hx1⟩)
    have hR1 := hR.ext hx1
    go_upto_region 3 with (go_at_call 19; refine ((HWh _ _ _).out).mono ?_; rintro e w2 ⟨rfl, rfl⟩)
    simp only [HE0.out]
    go_wp2_with fail
    go_loopw [7, 29] (fun s7 s29 wr => ∃ k : Nat, k ≤ q.length ∧ s29 = .int .i64 k ∧ s7 = .int .i64 (wantP E0 q k) ∧ Ext w1 wr) (fun _ s29 _ => q.length - (intOf s29).toNat)
    case atStart => exact ⟨0, Nat.zero_le _, rfl, by rw [wantP_zero], Ext.refl _⟩
    case round =>
      obtain ⟨k, hk, rfl, rfl, hx⟩ := hrel
      by_cases hkn : k < q.length
      · have hkq : k < q.length := by first | exact hkn | (rw [Hq.out]; exact hkn)
        obtain ⟨ad, rfl, hbk, hcv⟩ := (Rd.ext hR1 hx).at (k := k) (by simpa [iL] using hkq)
        have ck : wr.cell? (ad.add k) = some (.int .i64 (q.getD k 0)) := hcv k _ (by simp [iL, hkq, List.getD_eq_getElem?_getD])
        have hnext := wantP_next E0 q k
        generalize q.getD k 0 = z at *
        have HWz := fun w => HWi z w
        clear hcv hkq
        generalize wantP E0 q k = a at *
        generalize hzz : wantP E0 q (k + 1) = a2 at *
        have Hzz := hidA hzz
        clear hzz
        have i0 : (0 : Int) ≤ k := by omega
        have i1 : (k : Int) < q.length := by omega
        cases hbb : (decide (-1099511627776 ≤ z) && decide (z ≤ 1099511627776))
        all_goals
          rw [hbb] at hnext
          rw [hbb] at HWz
          simp only [Bool.not_true, Bool.not_false, if_true, if_false, Bool.false_eq_true] at hnext
          have Hnext := hidA hnext
          clear hbb hnext
          go_wp2_with (first | (go_at_call 20; refine ((HWz _).out).mono ?_; rintro e w6 ⟨rfl, rfl⟩) | (go_at_call 19; refine ((HWh _ _ _).out).mono ?_; rintro e w7 ⟨rfl, rfl⟩) | (go_at_call 9; refine ((HS _ _ _ _ (Rd.new (by first | rfl | simp) (by first | rfl | simp))).out).mono ?_; rintro e w8 ⟨rfl, hx8⟩))
          have hx9 : Ext w1 w8 := hx.trans (by rw [← hx8]; (repeat (first | exact Ext.refl _ | assumption | refine Ext.setCell ?_ (by first | (simp; done) | (simp; omega)) _ | refine Ext.drewN ?_ _ | refine Ext.alloc ?_ _ | refine Ext.drew ?_ | refine Ext.trans ?_ (by assumption))))
          go_roundw
          case rel => exact ⟨k + 1, by omega, by go_num, by rw [Hnext.out, Hzz.out], hx9⟩
          case measure => simp [intOf]; omega
      · have hkn' : k = q.length := by omega
        subst hkn'
        rw [Hend1.out]
        have Hx1 := hidA (hx1.trans hx)
        clear hx
        go_upto_region 14 with (go_at_call 12; refine ((HW _).out).mono ?_; rintro e w10 ⟨rfl, hx10⟩)
        have Hxz := hidA (Hx1.out.trans hx10)
        clear hx10 HP
        by_cases hl5 : 5000 < bs.length
        · have hl5' : (5000 : Int) < (bs.length : Int) := by omega
          go_wp2_with fail
          go_ret
          exact ⟨by first | rfl | simp, Hxz.out⟩
        · have hl5' : ¬ ((5000 : Int) < (bs.length : Int)) := by omega
          have HSp := fun (w : World) => hidA (sumP_any bs w (by omega))
          have HSr := fun (w : World) => hidA (sumR_any bs w (by omega))
          have HU := fun (w : World) => hidA (Unpack_any bs w (by omega))
          have HV := fun (w : World) => hidA (Unpacked_any bs w (by omega))
          have hlen := hidA (fun L (h : unp bs 0 0 [] = some L) => unp_len bs 0 0 [] L h)
          go_upto_region 16 with (first | (go_at_call 41; refine ((HSp _).out).mono ?_; rintro e w16 ⟨rfl, hw16⟩; rw [hw16]; clear hw16 w16) | (go_at_call 42; refine ((HSr _).out).mono ?_; rintro e w17 ⟨rfl, hw17⟩; rw [hw17]; clear hw17 w17))
          cases hun : unp bs 0 0 [] with
          | none =>
            rw [hun] at HU HV
            unfold UnpR at HU
            unfold UnrR at HV
            dsimp only at HU HV
            clear hlen hun
            go_wp2_with (first | (go_at_call 39; refine ((HU _).out).mono ?_; rintro e w20 ⟨rfl, hx20⟩) | (go_at_call 43; refine ((HV _).out).mono ?_; rintro e w21 ⟨rfl, hx21⟩) | (go_at_call 19; refine ((HWh _ _ _).out).mono ?_; rintro e w22 ⟨rfl, rfl⟩))
            go_loopw [7, 113] (fun s7 s113 wr => s7 = .int .i64 2 ∧ s113 = .int .i64 0 ∧ Ext w10 wr) (fun _ _ _ => 0)
            case atStart => exact ⟨rfl, rfl, hx20.trans hx21⟩
            case round =>
              obtain ⟨rfl, rfl, hx⟩ := hrel
              go_wp2_with fail
              go_ret
              exact ⟨by first | rfl | simp, Hxz.out.trans hx⟩
          | some L =>
            rw [hun] at HU HV
            unfold UnpR at HU
            unfold UnrR at HV
            dsimp only at HU HV
            have hLl : L.length ≤ 5000 := by have := hlen.out L hun; simp at this; omega
            have hend : wantP 0 L L.length = packE L := by
              have h := wantP_end L
              rwa [if_neg (by omega)] at h
            clear hlen hun
            by_cases hE2 : packE L = 0
            · simp only [if_pos hE2] at HU
              rw [hE2] at hend
              have Hend := hidA hend
              clear hE2 hend
              go_upto_region 17 with (go_at_call 39; refine ((HU _).out).mono ?_; rintro e w20 ⟨⟨vU, rfl, hoU⟩, hx20⟩)
              go_upto_region 18 with (go_at_call 43; refine ((HV _).out).mono ?_; rintro e w21 ⟨⟨vR, rfl, hoR⟩, hx21⟩)
              obtain ⟨UA, uc, hv⟩ := hoU.form
              subst hv
              obtain ⟨LA, lc, hv⟩ := hoR.form
              subst hv
              have hRL := Rd.of_own hoR
              have Hx21 := hidA (Hxz.out.trans (hx20.trans hx21))
              have HQ := fun (w' : World) (h : Ext w21 w') => hidA (eqI_same UA LA L.length uc lc L w' rfl (Rd.of_own (OwnL.ext hoU (hx21.trans h))) ((Rd.of_own hoR).ext h) (by omega))
              clear hoU hoR hx20 hx21 HU HV HSp HSr
              go_wp2_with (go_at_call 19; refine ((HWh _ _ _).out).mono ?_; rintro e w22 ⟨rfl, rfl⟩)
              go_loopw [7, 113] (fun s7 s113 wr => ∃ k : Nat, k ≤ L.length ∧ s113 = .int .i64 k ∧ s7 = .int .i64 (wantP 0 L k) ∧ Ext w21 wr) (fun _ s113 _ => L.length - (intOf s113).toNat)
              case atStart => exact ⟨0, Nat.zero_le _, rfl, by rw [wantP_zero], Ext.refl _⟩
              case round =>
                obtain ⟨k, hk, rfl, rfl, hx⟩ := hrel
                by_cases hkn : k < L.length
                · have hkq : k < L.length := by first | exact hkn | (rw [Hq.out]; exact hkn)
                  obtain ⟨ad, rfl, hbk, hcv⟩ := (Rd.ext hRL hx).at (k := k) (by simpa [iL] using hkq)
                  have ck : wr.cell? (ad.add k) = some (.int .i64 (L.getD k 0)) := hcv k _ (by simp [iL, hkq, List.getD_eq_getElem?_getD])
                  have hnext := wantP_next 0 L k
                  generalize L.getD k 0 = z at *
                  have HWz := fun w => HWi z w
                  clear hcv hkq
                  generalize wantP 0 L k = a at *
                  generalize hzz : wantP 0 L (k + 1) = a2 at *
                  have Hzz := hidA hzz
                  clear hzz
                  have i0 : (0 : Int) ≤ k := by omega
                  have i1 : (k : Int) < L.length := by omega
                  cases hbb : (decide (-1099511627776 ≤ z) && decide (z ≤ 1099511627776))
                  all_goals
                    rw [hbb] at hnext
                    rw [hbb] at HWz
                    simp only [Bool.not_true, Bool.not_false, if_true, if_false, Bool.false_eq_true] at hnext
                    have Hnext := hidA hnext
                    clear hbb hnext
                    go_wp2_with (first | (go_at_call 20; refine ((HWz _).out).mono ?_; rintro e w6 ⟨rfl, rfl⟩) | (go_at_call 19; refine ((HWh _ _ _).out).mono ?_; rintro e w7 ⟨rfl, rfl⟩) | (go_at_call 9; refine ((HS _ _ _ _ (Rd.new (by first | rfl | simp) (by first | rfl | simp))).out).mono ?_; rintro e w8 ⟨rfl, hx8⟩))
                    have hx9 : Ext w21 w8 := hx.trans (by rw [← hx8]; (repeat (first | exact Ext.refl _ | assumption | refine Ext.setCell ?_ (by first | (simp; done) | (simp; omega)) _ | refine Ext.drewN ?_ _ | refine Ext.alloc ?_ _ | refine Ext.drew ?_ | refine Ext.trans ?_ (by assumption))))
                    go_roundw
                    case rel => exact ⟨k + 1, by omega, by go_num, by rw [Hnext.out, Hzz.out], hx9⟩
                    case measure => simp [intOf]; omega
                · have hkn' : k = L.length := by omega
                  subst hkn'
                  rw [Hend.out]
                  go_wp2_with (go_at_call 40; refine ((HQ _ hx).out).mono ?_; rintro e w30 ⟨rfl, hx30⟩)
                  go_ret
                  exact ⟨by first | rfl | simp, Hx21.out.trans (hx.trans hx30)⟩
            · simp only [if_neg hE2] at HU
              have hne2 : (packE L != 0) = true := by simpa using hE2
              generalize packE L = E2 at *
              have Hend := hidA hend
              clear hE2 hend
              go_upto_region 17 with (go_at_call 39; refine ((HU _).out).mono ?_; rintro e w20 ⟨rfl, hx20⟩)
              go_upto_region 18 with (go_at_call 43; refine ((HV _).out).mono ?_; rintro e w21 ⟨⟨vR, rfl, hoR⟩, hx21⟩)
              obtain ⟨LA, lc, hv⟩ := hoR.form
              subst hv
              have hRL := Rd.of_own hoR
              have Hx21 := hidA (Hxz.out.trans (hx20.trans hx21))
              clear hoR hx20 hx21 HU HV HSp HSr
              go_wp2_with (go_at_call 19; refine ((HWh _ _ _).out).mono ?_; rintro e w22 ⟨rfl, rfl⟩)
              go_loopw [7, 113] (fun s7 s113 wr => ∃ k : Nat, k ≤ L.length ∧ s113 = .int .i64 k ∧ s7 = .int .i64 (wantP 0 L k) ∧ Ext w21 wr) (fun _ s113 _ => L.length - (intOf s113).toNat)
              case atStart => exact ⟨0, Nat.zero_le _, rfl, by rw [wantP_zero], Ext.refl _⟩
              case round =>
                obtain ⟨k, hk, rfl, rfl, hx⟩ := hrel
                by_cases hkn : k < L.length
                · have hkq : k < L.length := by first | exact hkn | (rw [Hq.out]; exact hkn)
                  obtain ⟨ad, rfl, hbk, hcv⟩ := (Rd.ext hRL hx).at (k := k) (by simpa [iL] using hkq)
                  have ck : wr.cell? (ad.add k) = some (.int .i64 (L.getD k 0)) := hcv k _ (by simp [iL, hkq, List.getD_eq_getElem?_getD])
                  have hnext := wantP_next 0 L k
                  generalize L.getD k 0 = z at *
                  have HWz := fun w => HWi z w
                  clear hcv hkq
                  generalize wantP 0 L k = a at *
                  generalize hzz : wantP 0 L (k + 1) = a2 at *
                  have Hzz := hidA hzz
                  clear hzz
                  have i0 : (0 : Int) ≤ k := by omega
                  have i1 : (k : Int) < L.length := by omega
                  cases hbb : (decide (-1099511627776 ≤ z) && decide (z ≤ 1099511627776))
                  all_goals
                    rw [hbb] at hnext
                    rw [hbb] at HWz
                    simp only [Bool.not_true, Bool.not_false, if_true, if_false, Bool.false_eq_true] at hnext
                    have Hnext := hidA hnext
                    clear hbb hnext
                    go_wp2_with (first | (go_at_call 20; refine ((HWz _).out).mono ?_; rintro e w6 ⟨rfl, rfl⟩) | (go_at_call 19; refine ((HWh _ _ _).out).mono ?_; rintro e w7 ⟨rfl, rfl⟩) | (go_at_call 9; refine ((HS _ _ _ _ (Rd.new (by first | rfl | simp) (by first | rfl | simp))).out).mono ?_; rintro e w8 ⟨rfl, hx8⟩))
                    have hx9 : Ext w21 w8 := hx.trans (by rw [← hx8]; (repeat (first | exact Ext.refl _ | assumption | refine Ext.setCell ?_ (by first | (simp; done) | (simp; omega)) _ | refine Ext.drewN ?_ _ | refine Ext.alloc ?_ _ | refine Ext.drew ?_ | refine Ext.trans ?_ (by assumption))))
                    go_roundw
                    case rel => exact ⟨k + 1, by omega, by go_num, by rw [Hnext.out, Hzz.out], hx9⟩
                    case measure => simp [intOf]; omega
                · have hkn' : k = L.length := by omega
                  subst hkn'
                  rw [Hend.out]
                  go_wp2_with fail
                  go_ret
                  exact ⟨by first | rfl | simp, Hx21.out.trans hx⟩
end Go.Proofs.Ytdfegkpdnofdoaa
