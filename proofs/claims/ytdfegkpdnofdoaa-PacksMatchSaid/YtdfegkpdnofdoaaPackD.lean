/- Contract: export.Unpack. -/
import Derived.Test.YtdfegkpdnofdoaaPackC
namespace Go.Proofs.Ytdfegkpdnofdoaa
open Go.RowKit
attribute [local go_sem ↓] Go.wp_at_zero Go.wp_at_succ

theorem and127_u8 (b : UInt8) : bits .and .u8 (b.toNat : Int) 127 = ((b.toNat % 128 : Nat) : Int) := by
  have h := UInt8.toNat_lt b
  have h1 := bits_mask .u8 8 (by decide) wraps_u8 7 (by decide) (b.toNat : Int) (by omega) (by omega)
  have e : ((2 : Int) ^ 7 - 1) = 127 := by decide
  rw [e] at h1
  rw [h1]
  have e2 : ((2 : Int) ^ 7) = 128 := by decide
  rw [e2]
  omega
theorem w64 (n : Int) : wrap64 n = IntKind.i64.wrap n := by rw [IntKind.wrap_i64]; unfold wrap64; omega
theorem pow128 (g : Nat) : 128 ^ g = 2 ^ (7 * g) := by rw [Nat.pow_mul]
theorem pow_mono {g : Nat} (h : g ≤ 9) : 2 ^ (7 * g) ≤ 9223372036854775808 := by
  have h1 : 2 ^ (7 * g) ≤ 2 ^ 63 := Nat.pow_le_pow_right (by decide) (by omega)
  exact h1
/-- one more group: what the walk reckons -/
theorem join_group {m gq g : Nat} (hm : m < 128 ^ g) (hq : gq < 128) (hg : g ≤ 8) :
    IntKind.i64.wrap ((gq : Int) * 2 ^ (7 * g)) = ((gq * 128 ^ g : Nat) : Int) ∧ bits .or .i64 (m : Int) ((gq * 128 ^ g : Nat) : Int) = ((m + gq * 128 ^ g : Nat) : Int) ∧ m + gq * 128 ^ g < 128 ^ (g + 1) ∧ 128 ^ (g + 1) ≤ 9223372036854775808 := by
  have h1 : 128 ^ (g + 1) ≤ 9223372036854775808 := by rw [pow128]; exact pow_mono (by omega)
  have h2 : m + gq * 128 ^ g < 128 ^ (g + 1) := by
    have h3 : gq * 128 ^ g ≤ 127 * 128 ^ g := Nat.mul_le_mul_right _ (by omega)
    rw [Nat.pow_succ]
    omega
  have h4 : ((gq : Int) * 2 ^ (7 * g)) = ((gq * 128 ^ g : Nat) : Int) := by rw [pow128]; simp
  refine ⟨?_, ?_, h2, h1⟩
  · rw [h4]
    exact IntWalk.i64_in _ ⟨by omega, by omega⟩
  · have hc : bits .or .i64 (m : Int) ((gq * 128 ^ g : Nat) : Int) = bits .or .i64 ((gq * 128 ^ g : Nat) : Int) (m : Int) := by simp only [bits, BitVec.or_comm]
    rw [hc, bits_join .i64 63 (by decide) (fun n h0 h1 => IntWalk.i64_in n ⟨by omega, by omega⟩) (7 * g) _ _ (by omega) ?_ (by omega) (by omega) ?_ (by omega)]
    · omega
    · rw [pow128]
      have e : ((gq * 2 ^ (7 * g) : Nat) : Int) % 2 ^ (7 * g) = ((gq * 2 ^ (7 * g) % 2 ^ (7 * g) : Nat) : Int) := by simp
      rw [e, Nat.mul_mod_left]
      rfl
    · rw [pow128] at hm
      exact_mod_cast hm
theorem unz_walk {y : Nat} (h : y < 9223372036854775808) (ho : y % 2 = 1) : (IntKind.i64.wrap (-IntKind.i64.wrap ((y : Int) + 1))).tdiv 2 = unz y := by
  unfold unz
  rw [if_pos ho, IntKind.wrap_i64, IntKind.wrap_i64]
  by_cases e : y = 9223372036854775807
  · subst e; decide
  · have e1 : ((y : Int) + 1 + 9223372036854775808) % 18446744073709551616 - 9223372036854775808 = (y : Int) + 1 := by omega
    rw [e1]
    have e2 : (-((y : Int) + 1) + 9223372036854775808) % 18446744073709551616 - 9223372036854775808 = -((y : Int) + 1) := by omega
    rw [e2, Int.neg_tdiv, Int.tdiv_eq_ediv_of_nonneg (by omega)]
    omega
/-- what Unpack returns -/
def UnpR (w0 w' : World) (e : Ending) (o : Option (List Int)) : Prop := match o with
  | none => e = .returned (.tuple #[.slice none 0 0, .int .i64 2])
  | some L => if packE L = 0 then ∃ v, e = .returned (.tuple #[v, .int .i64 0]) ∧ OwnL w' w0.heap.size v L else e = .returned (.tuple #[.slice none 0 0, .int .i64 (packE L)])
set_option maxRecDepth 100000 in
set_option maxHeartbeats 6400000 in
theorem Unpack_any (bs : List UInt8) (w : World) (hs : bs.length ≤ 4194304) :
    Calls Try.prog 39 #[.string (strB bs)] w fun e w' => UnpR w w' e (unp bs 0 0 []) ∧ Ext w w' := by
  obtain ⟨i0, hi0, hz0, hz1, hz2⟩ := info_parts infoI64
  obtain ⟨s, hsB⟩ : ∃ s, s = strB bs := ⟨_, rfl⟩
  rw [← hsB]
  have hsz : s.size = bs.length := by rw [hsB]; exact strB_size bs
  have Hix := hidA (fun (i : Nat) (hi : i < bs.length) (h : i < s.size) => show s[i] = bs[i] from by subst hsB; exact strB_get hi h)
  clear hsB
  obtain ⟨R, hR⟩ : ∃ R, R = unp bs 0 0 [] := ⟨_, rfl⟩
  rw [← hR]
  have HR := hidA hR
  clear hR
  go_enter Try.func39, Try.ntmps39
  go_wp2_with fail
  go_loopw [4, 5, 6, 7] (fun s4 s5 s6 s7 wr => ∃ (i m g sh : Nat) (L : List Int), i ≤ bs.length ∧ s7 = .int .i64 i ∧ s5 = .int .i64 m ∧ s6 = .int .i64 sh ∧ sh = 7 * g ∧ g ≤ 9 ∧ Hid (m < 128 ^ g) ∧ OwnL wr w.heap.size s4 L ∧ L.length ≤ i ∧ Hid (R = unp (bs.drop i) m g L) ∧ Ext w wr) (fun _ _ _ s7 _ => bs.length - (intOf s7).toNat)
  case atStart => exact ⟨0, 0, 0, 0, [], Nat.zero_le _, rfl, rfl, rfl, rfl, by omega, hidA (by decide), OwnL.nil _ _, by simp, HR, Ext.refl _⟩
  case round =>
    clear HR
    obtain ⟨i, m, g, sh, L, hi, rfl, rfl, rfl, hsh, hg, Hm, hO, hLi, Hu, hx⟩ := hrel
    by_cases hiL : i < bs.length
    · have i1 : (0 : Int) ≤ i := by omega
      have i2 : (i : Int) < bs.length := by omega
      have hix := fun h => Hix.out i hiL h
      have hu := Hu.out
      rw [List.drop_eq_getElem_cons hiL, unp] at hu
      generalize bs[i] = b at *
      have hb := UInt8.toNat_lt b
      have f1 := and127_u8 b
      have hgq : b.toNat % 128 < 128 := Nat.mod_lt _ (by omega)
      have Hbq := hidA (show b.toNat < 128 → b.toNat % 128 = b.toNat from fun h => Nat.mod_eq_of_lt h)
      by_cases h9 : g = 9
      · have hsh2 : sh = 63 := by omega
        rw [if_pos h9] at hu
        have Hu2 := hidA hu
        subst hsh2
        clear hu hsh Hu hO
        generalize b.toNat % 128 = gq at *
        go_wp2_with fail
        go_ret2
        exact ⟨by rw [Hu2.out]; first | rfl | simp [UnpR], hx⟩
      · have hsh63 : ¬ ((sh : Int) = 63) := by omega
        have hsh64 : (sh : Int) ≤ 56 := by omega
        rw [if_neg h9] at hu
        obtain ⟨f2, f3, hm2, hp⟩ := join_group (gq := b.toNat % 128) Hm.out hgq (by omega)
        have f2w : wrap64 (((b.toNat % 128 : Nat) : Int) * 2 ^ (7 * g)) = ((b.toNat % 128 * 128 ^ g : Nat) : Int) := by rw [← f2, w64]
        have Hgq := hidA (show b.toNat < 128 → b.toNat % 128 * 128 ^ g = b.toNat * 128 ^ g from fun h => by rw [Nat.mod_eq_of_lt h])
        generalize hx1 : b.toNat % 128 * 128 ^ g = x1 at *
        generalize hy1 : m + x1 = y1 at *
        have Hm2 := hidA hm2
        have hy63 : y1 < 9223372036854775808 := by omega
        clear hx1 hp hm2 Hm Hu
        generalize hgg : b.toNat % 128 = gq at *
        by_cases h128 : 128 ≤ b.toNat
        · have h128' : (128 : Int) ≤ (b.toNat : Int) := by omega
          rw [if_pos h128] at hu
          have Hu2 := hidA hu
          clear hu
          go_wp2_with fail
          go_roundw
          case rel => exact ⟨i + 1, y1, g + 1, sh + 7, L, by omega, by go_num, rfl, by go_num, by omega, by omega, Hm2, hO, by omega, Hu2, hx⟩
          case measure => simp [intOf]; omega
        · have h128' : ¬ ((128 : Int) ≤ (b.toNat : Int)) := by omega
          have Hgb := hidA (show gq = b.toNat from Hbq.out (by omega))
          have hxb := Hgq.out (by omega)
          rw [if_neg h128] at hu
          rw [← hxb, hy1] at hu
          have Hu3 := hidA hu
          clear hu hxb
          go_upto_region 14 with fail
          have hgb := Hgb.out
          have hu := Hu3.out
          subst hgb
          clear f1 f2 f2w f3
          by_cases h0 : b.toNat = 0 ∧ g ≠ 0
          · rw [if_pos h0] at hu
            have Hu2 := hidA hu
            have h00 : ((b.toNat : Int)) = 0 := by omega
            have h07 : (7 : Int) < (sh : Int) + 7 := by omega
            clear hu hO
            go_wp2_with fail
            go_ret2
            exact ⟨by rw [Hu2.out]; first | rfl | simp [UnpR], hx⟩
          · rw [if_neg h0] at hu
            have Hu2 := hidA hu
            clear hu
            have q1 : (y1 : Int).tdiv 2 = ((y1 / 2 : Nat) : Int) := by rw [Int.tdiv_eq_ediv_of_nonneg (by omega)]; rfl
            have q2 : (y1 : Int).tmod 2 = ((y1 % 2 : Nat) : Int) := by rw [Int.tmod_eq_emod_of_nonneg (by omega)]; rfl
            have hL1 : L.length ≤ 4194304 := by omega
            obtain ⟨z, hz⟩ : ∃ z, z = unz y1 := ⟨_, rfl⟩
            have hzr : wrap64 z = z := IntWalk.wrap64_in _ (by rw [hz]; unfold unz; split <;> constructor <;> omega)
            have hzr2 : IntKind.i64.wrap z = z := by rw [← w64]; exact hzr
            rw [← hz] at Hu2
            have hA3 := hidA (show (wr.alloc (.cells #[.int .i64 z] 3)).ownsRow w.heap.size 3 1 u4 L.length (iL L) from hO.ext ((Ext.refl _).alloc _))
            have hN3 := hidA (World.news_of_block (w := wr.alloc (.cells #[.int .i64 z] 3)) (cs := #[.int .i64 z]) (t := 3) (fr := (0, 0)) (heap_alloc_new wr _))
            have hone : Hid (∀ u ∈ ([Value.int .i64 z] : List Value), u.oneCell' = true) := (by intro u hu; simp at hu; subst hu; rfl)
            have hs3 := hidA (show w.heap.size ≤ (wr.alloc (.cells #[.int .i64 z] 3)).heap.size from by have := hx.size; simp; omega)
            have Hxa := hidA (hx.alloc (.cells #[.int .i64 z] 3))
            clear hO hx
            by_cases hodd : y1 % 2 = 1
            case' pos =>
              have hzz := unz_walk hy63 hodd
              rw [← hz] at hzz
              have hzw : (wrap64 (-wrap64 ((y1 : Int) + 1))).tdiv 2 = z := by
                rw [w64, w64]
                exact hzz
              rw [hodd] at q2
            case' neg =>
              have hod0 : y1 % 2 = 0 := by omega
              have hzz : ((y1 / 2 : Nat) : Int) = z := by rw [hz]; unfold unz; rw [if_neg hodd]
              rw [hod0] at q2
              rw [hzz] at q1
            all_goals
              clear hz hodd
              by_cases hb0 : b.toNat = 0
              case' pos =>
                have hbI : (b.toNat : Int) = 0 := by omega
                have hsI : ¬ ((7 : Int) < (sh : Int) + 7) := by omega
              case' neg =>
                have hbI : ¬ ((b.toNat : Int) = 0) := by omega
              all_goals
                go_wp2_with (at_builtin; (refine wpList_append_own _ (by rfl) _ _ 67 (by rfl) w.heap.size 3 i0 (.int .i64 0) 1 8 Try.underlying67 hi0 hz0 hz1 hz2 rfl (by decide) u4 L.length (iL L) (by rfl) hA3.out ⟨wr.heap.size, 0, none⟩ 1 1 [.int .i64 z] (by rfl) (by rfl) hN3.out hone.out (by unfold maxLen; omega) (by omega) hs3.out ?_; intro v4 w4 hown4 hgrow4 _))
                have HO2 := hidA (show OwnL w4 w.heap.size v4 (L ++ [z]) from OwnL.snoc hown4)
                have hx4 := hidA (Hxa.out.grown hgrow4 (fun q he => (World.ownsRow.lt hA3.out q he).1))
                clear hA3 hN3 hone hs3 Hxa hown4 hgrow4
                go_wp2_with fail
                go_roundw
                case rel => exact ⟨i + 1, 0, 0, 0, L ++ [z], by omega, by go_num, rfl, rfl, rfl, by omega, hidA (by decide), HO2.out, by rw [List.length_append, List.length_singleton]; omega, Hu2, hx4.out⟩
                case measure => simp [intOf]; omega
    · obtain rfl : i = bs.length := by omega
      have hu := Hu.out
      rw [List.drop_length, unp] at hu
      by_cases hg0 : g = 0
      · rw [if_pos hg0] at hu
        have Hu2 := hidA hu
        have hsh0 : sh = 0 := by omega
        subst hsh0
        obtain ⟨LA, lc, hv⟩ := hO.form
        subst hv
        have HC := fun (w' : World) (h : Ext wr w') => hidA (checkPacked_any LA L.length lc L w' rfl (Rd.of_own (OwnL.ext hO h)) (by omega))
        clear hu hsh
        by_cases hE : packE L = 0
        · rw [hE] at HC
          have HE := hidA hE
          clear hE
          go_wp2_with (go_at_call 69; refine ((HC _ (Ext.refl _)).out).mono ?_; rintro e w2 ⟨rfl, hw2⟩; rw [hw2]; clear hw2 w2)
          go_ret2
          refine ⟨?_, hx⟩
          rw [Hu2.out]
          unfold UnpR
          dsimp only
          rw [if_pos HE.out]
          exact ⟨_, by first | rfl | simp, hO⟩
        · have HE := hidA hE
          have hne : (packE L != 0) = true := by simpa using hE
          obtain ⟨E, hEE⟩ : ∃ E, E = packE L := ⟨_, rfl⟩
          rw [← hEE] at HC hne
          have HEE := hidA hEE
          clear hE hEE
          go_wp2_with (go_at_call 69; refine ((HC _ (Ext.refl _)).out).mono ?_; rintro e w2 ⟨rfl, hw2⟩; rw [hw2]; clear hw2 w2)
          go_ret2
          refine ⟨?_, hx⟩
          rw [Hu2.out]
          unfold UnpR
          dsimp only
          rw [if_neg HE.out, ← HEE.out]
          first | rfl | simp
      · rw [if_neg hg0] at hu
        have Hu2 := hidA hu
        have hsh0 : (0 : Int) < (sh : Int) := by omega
        clear hu
        go_wp2_with fail
        go_ret2
        exact ⟨by rw [Hu2.out]; first | rfl | simp [UnpR], hx⟩
end Go.Proofs.Ytdfegkpdnofdoaa
