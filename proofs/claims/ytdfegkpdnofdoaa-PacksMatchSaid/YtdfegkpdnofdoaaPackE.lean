/- Contract: tarnref2.Unpacked. -/
import Derived.Test.YtdfegkpdnofdoaaPackD
namespace Go.Proofs.Ytdfegkpdnofdoaa
open Go.RowKit
attribute [local go_sem ↓] Go.wp_at_zero Go.wp_at_succ

def strLen : Value → Nat
  | .string s => s.size
  | _ => 0
theorem strB_extract (t : List UInt8) (k : Nat) (n : Nat) (hn : n = t.length) : (strB t).extract k n = strB (t.drop k) := by
  subst hn
  apply ByteArray.ext
  unfold strB
  rw [ByteArray.data_extract]
  simp
  exact List.take_of_length_le (by simp)
theorem strB_ne {t : List UInt8} (h : t ≠ []) : (strB t).toList.isEmpty = false := by
  have h4 : (strB t).toList.length = (strB t).size := by simp [ByteArray.toList_eq]
  rw [strB_size] at h4
  cases hl : (strB t).toList with
  | nil =>
    rw [hl] at h4
    exact absurd (List.eq_nil_of_length_eq_zero h4.symm) h
  | cons a l => rfl
/-- what Unpacked returns -/
def UnrR (w0 w' : World) (e : Ending) (o : Option (List Int)) : Prop := match o with
  | none => e = .returned (.tuple #[.slice none 0 0, .bool false])
  | some L => ∃ v, e = .returned (.tuple #[v, .bool true]) ∧ OwnL w' w0.heap.size v L
set_option maxRecDepth 100000 in
set_option maxHeartbeats 6400000 in
theorem Unpacked_any (bs : List UInt8) (w : World) (hs : bs.length ≤ 4194304) :
    Calls Try.prog 43 #[.string (strB bs)] w fun e w' => UnrR w w' e (unp bs 0 0 []) ∧ Ext w w' := by
  obtain ⟨i0, hi0, hz0, hz1, hz2⟩ := info_parts infoI64
  obtain ⟨R, hR⟩ : ∃ R, R = unp bs 0 0 [] := ⟨_, rfl⟩
  rw [← hR]
  have HR := hidA hR
  clear hR
  go_enter Try.func43, Try.ntmps43
  go_wp2_with fail
  go_loopw [0, 4] (fun s0 s4 wr => ∃ (t : List UInt8) (L : List Int), t.length ≤ bs.length ∧ s0 = .string (strB t) ∧ OwnL wr w.heap.size s4 L ∧ L.length + t.length ≤ bs.length ∧ Hid (R = unp t 0 0 L) ∧ Ext w wr) (fun s0 _ _ => strLen s0)
  case atStart => exact ⟨bs, [], Nat.le_refl _, rfl, OwnL.nil _ _, by simp, HR, Ext.refl _⟩
  case round =>
    clear HR
    obtain ⟨t, L, ht, rfl, hO, hLt, Hu, hx⟩ := hrel
    by_cases hne : t = []
    · subst hne
      have hu := Hu.out
      rw [unp, if_pos rfl] at hu
      have Hu2 := hidA hu
      clear hu
      have he : (strB []) = (⟨#[]⟩ : ByteArray) := rfl
      rw [he]
      go_wp2_with fail
      go_ret2
      exact ⟨by rw [Hu2.out]; exact ⟨_, by first | rfl | simp, hO⟩, hx⟩
    · have hnb := strB_ne hne
      have htp : 0 < t.length := List.length_pos_iff.2 hne
      have hun := hidA (num1_unp t 0 0 L (.inl hne))
      obtain ⟨s, hsB⟩ : ∃ s, s = strB t := ⟨_, rfl⟩
      rw [← hsB] at hnb ⊢
      have hsz : s.size = t.length := by rw [hsB]; exact strB_size t
      have Hix := hidA (fun (i : Nat) (hi : i < t.length) (h : i < s.size) => show s[i] = t[i] from by subst hsB; exact strB_get hi h)
      have Hex := hidA (fun (k : Nat) => show s.extract k t.length = strB (t.drop k) from by rw [hsB]; exact strB_extract t k _ rfl)
      have HsB := hidA hsB
      clear hsB
      go_wp2_with fail
      obtain ⟨wo, rfl⟩ : ∃ wo, wo = wr := ⟨_, rfl⟩
      go_loopw [5, 6] (fun s5 s6 wy => ∃ (k m : Nat), k ≤ t.length ∧ s6 = .int .i64 k ∧ s5 = .int .i64 m ∧ k ≤ 9 ∧ Hid (m < 128 ^ k) ∧ Hid (num1 t 0 0 = num1 (t.drop k) m k) ∧ wy = wo) (fun _ s6 _ => t.length - (intOf s6).toNat)
      case atStart => exact ⟨0, 0, Nat.zero_le _, rfl, rfl, by omega, hidA (by decide), hidA rfl, by first | rfl | trivial⟩
      case round =>
        obtain ⟨k, m, hk, rfl, rfl, hk9, Hm, Hn, rfl⟩ := hrel
        by_cases hkL : k < t.length
        · have i1 : (0 : Int) ≤ k := by omega
          have i2 : (k : Int) < t.length := by omega
          have i3 : ¬ ((k : Int) = (t.length : Int)) := by omega
          have hn := Hn.out
          rw [List.drop_eq_getElem_cons hkL, num1] at hn
          by_cases h9 : k = 9
          · rw [if_pos h9] at hn
            have hu := Hu.out
            rw [hun.out, hn] at hu
            have Hu2 := hidA hu
            have h9i : (k : Int) = 9 := by omega
            clear hn hu hun Hu hnb hO
            go_wp2_with fail
            go_ret2
            exact ⟨by rw [Hu2.out]; first | rfl | simp [UnrR], hx⟩
          · rw [if_neg h9] at hn
            have h9i : ¬ ((k : Int) = 9) := by omega
            have hbk1 : ((k : Int) == (t.length : Int)) = false := by simpa using i3
            have hbk2 : ((k : Int) == 9) = false := by simpa using h9i
            have hix := fun h => Hix.out k hkL h
            generalize t[k] = b at *
            have hb := UInt8.toNat_lt b
            have f1 := and127_u8 b
            have hgq : b.toNat % 128 < 128 := Nat.mod_lt _ (by omega)
            obtain ⟨f2, _, hm2, hp⟩ := join_group (gq := b.toNat % 128) Hm.out hgq (by omega)
            have f2w : wrap64 (((b.toNat % 128 : Nat) : Int) * 2 ^ (7 * k)) = ((b.toNat % 128 * 128 ^ k : Nat) : Int) := by rw [← f2, w64]
            have Hgq := hidA (show b.toNat < 128 → b.toNat % 128 * 128 ^ k = b.toNat * 128 ^ k from fun h => by rw [Nat.mod_eq_of_lt h])
            generalize hx1 : b.toNat % 128 * 128 ^ k = x1 at *
            have f5 : (m : Int) + (x1 : Int) = ((m + x1 : Nat) : Int) := by omega
            generalize hy1 : m + x1 = y1 at *
            have Hm2 := hidA hm2
            have hy63 : y1 < 9223372036854775808 := by omega
            clear hx1 hp hm2 Hm Hn
            generalize b.toNat % 128 = gq at *
            by_cases h128 : 128 ≤ b.toNat
            · have h128' : ¬ ((b.toNat : Int) < 128) := by omega
              rw [if_pos h128] at hn
              have Hn2 := hidA hn
              clear hn
              go_wp2_with fail
              go_roundw
              case rel => exact ⟨k + 1, y1, by omega, by go_num, rfl, by omega, Hm2, Hn2, by first | rfl | trivial⟩
              case measure => simp [intOf]; omega
            · have h128' : (b.toNat : Int) < 128 := by omega
              have hxb := Hgq.out (by omega)
              rw [if_neg h128, ← hxb, hy1] at hn
              have hu := Hu.out
              rw [hun.out, hn] at hu
              dsimp only at hu
              have Hu3 := hidA hu
              have hexk := Hex.out (k + 1)
              have htk : (t.drop (k + 1)).length + (k + 1) = t.length := by rw [List.length_drop]; omega
              clear hn hxb hu hun Hu
              go_upto_region 9 with fail
              clear f1 f2 f2w f5
              have hu := Hu3.out
              by_cases h0 : b.toNat = 0 ∧ 1 < k + 1
              · rw [if_pos h0] at hu
                have Hu2 := hidA hu
                have hb0 : (b.toNat : Int) = 0 := by omega
                have hk1 : (1 : Int) < (k : Int) + 1 := by omega
                clear hu hO hnb
                go_wp2_with fail
                go_ret2
                exact ⟨by rw [Hu2.out]; first | rfl | simp [UnrR], hx⟩
              · rw [if_neg h0, show k + 1 - 0 = k + 1 by omega] at hu
                have q1 : (y1 : Int).tdiv 2 = ((y1 / 2 : Nat) : Int) := by rw [Int.tdiv_eq_ediv_of_nonneg (by omega)]; rfl
                have q2 : (y1 : Int).tmod 2 = ((y1 % 2 : Nat) : Int) := by rw [Int.tmod_eq_emod_of_nonneg (by omega)]; rfl
                have hL1 : L.length ≤ 4194304 := by omega
                obtain ⟨z, hz⟩ : ∃ z, z = unz y1 := ⟨_, rfl⟩
                have hzr : wrap64 z = z := IntWalk.wrap64_in _ (by rw [hz]; unfold unz; split <;> constructor <;> omega)
                rw [← hz] at hu
                have Hu2 := hidA hu
                have hA3 := hidA (show (wr.alloc (.cells #[.int .i64 z] 3)).ownsRow w.heap.size 3 1 u4 L.length (iL L) from hO.ext ((Ext.refl _).alloc _))
                have hN3 := hidA (World.news_of_block (w := wr.alloc (.cells #[.int .i64 z] 3)) (cs := #[.int .i64 z]) (t := 3) (fr := (0, 0)) (heap_alloc_new wr _))
                have hone : Hid (∀ u ∈ ([Value.int .i64 z] : List Value), u.oneCell' = true) := (by intro u hu; simp at hu; subst hu; rfl)
                have hs3 := hidA (show w.heap.size ≤ (wr.alloc (.cells #[.int .i64 z] 3)).heap.size from by have := hx.size; simp; omega)
                have Hxa := hidA (hx.alloc (.cells #[.int .i64 z] 3))
                clear hO hx hu
                by_cases hodd : y1 % 2 = 1
                case' pos =>
                  have hzz := unz_walk hy63 hodd
                  rw [← hz] at hzz
                  have hzw : (wrap64 (-wrap64 ((y1 : Int) + 1))).tdiv 2 = z := by
                    rw [w64, w64]
                    exact hzz
                  rw [hodd] at q2
                case' neg =>
                  have hod0 : y1 % 2 = 0 := by omega
                  have hzz : ((y1 / 2 : Nat) : Int) = z := by rw [hz]; unfold unz; rw [if_neg hodd]
                  rw [hod0] at q2
                  rw [hzz] at q1
                all_goals
                  clear hz hodd
                  by_cases hk0 : k = 0
                  case' pos =>
                    have hkI : ¬ ((1 : Int) < (k : Int) + 1) := by omega
                    clear hk0
                  case' neg =>
                    have hkI : (1 : Int) < (k : Int) + 1 := by omega
                    have hbI : ¬ ((b.toNat : Int) = 0) := by omega
                  all_goals
                    go_wp2_with (at_builtin; (refine wpList_append_own _ (by rfl) _ _ 67 (by rfl) w.heap.size 3 i0 (.int .i64 0) 1 8 Try.underlying67 hi0 hz0 hz1 hz2 rfl (by decide) u4 L.length (iL L) (by rfl) hA3.out ⟨wr.heap.size, 0, none⟩ 1 1 [.int .i64 z] (by rfl) (by rfl) hN3.out hone.out (by unfold maxLen; omega) (by omega) hs3.out ?_; intro v4 w4 hown4 hgrow4 _))
                    have HO2 := hidA (show OwnL w4 w.heap.size v4 (L ++ [z]) from OwnL.snoc hown4)
                    have hx4 := hidA (Hxa.out.grown hgrow4 (fun q he => (World.ownsRow.lt hA3.out q he).1))
                    clear hA3 hN3 hone hs3 Hxa hown4 hgrow4
                    go_wp2_with fail
                    go_roundw
                    case rel => exact ⟨t.drop (k + 1), L ++ [z], by omega, rfl, HO2.out, by rw [List.length_append, List.length_singleton]; omega, Hu2, hx4.out⟩
                    case measure => simp [strLen, hsz, strB_size]; omega
        · obtain rfl : k = t.length := by omega
          have hn := Hn.out
          rw [List.drop_length, num1] at hn
          have hu := Hu.out
          rw [hun.out, hn] at hu
          have Hu2 := hidA hu
          clear hn hu hun Hu hnb hO
          go_wp2_with fail
          go_ret2
          exact ⟨by rw [Hu2.out]; first | rfl | simp [UnrR], hx⟩
end Go.Proofs.Ytdfegkpdnofdoaa
