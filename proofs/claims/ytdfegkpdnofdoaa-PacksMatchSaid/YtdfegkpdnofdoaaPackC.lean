/- Contracts: export.Unpack, Sum; tarnref2.SumOf. -/
import Derived.Test.YtdfegkpdnofdoaaPackB
namespace Go.Proofs.Ytdfegkpdnofdoaa
open Go.RowKit
attribute [local go_sem ↓] Go.wp_at_zero Go.wp_at_succ

theorem infoI64 : (Try.prog.info? 3).map (fun i => (i.zero, i.size, i.bytes)) = some (some (.int .i64 0), 1, 8) := by kernel_rfl
/-- a slice of integers of the call's own -/
def OwnL (w : World) (base : Nat) (v : Value) (l : List Int) : Prop := w.ownsRow base 3 1 v l.length (iL l)
theorem iL_snoc (l : List Int) (x : Int) : iL (l ++ [x]) = iL l ++ [.int .i64 x] := by simp [iL]
theorem OwnL.nil (w : World) (base : Nat) : OwnL w base (.slice none 0 0) [] := World.ownsRow_nil w base _ 1
theorem OwnL.ext {w w' : World} {base : Nat} {v : Value} {l : List Int} (h : OwnL w base v l) (hx : Ext w w') : OwnL w' base v l := World.ownsRow.kept h (grown_ext hx none) (by cases h : v.ownBlock <;> simp)
theorem OwnL.snoc {w : World} {base : Nat} {v : Value} {l : List Int} {x : Int} (h : w.ownsRow base 3 1 v (l.length + 1) (iL l ++ [.int .i64 x])) : OwnL w base v (l ++ [x]) := by
  unfold OwnL
  rw [iL_snoc, List.length_append]
  exact h
theorem OwnL.form {w : World} {base : Nat} {v : Value} {l : List Int} (h : OwnL w base v l) : ∃ A cap, v = .slice A l.length cap := by
  rcases h.2 with ⟨h1, h2⟩ | ⟨g, cap, cur, hv, _⟩
  · exact ⟨none, 0, by rw [h1, h2]⟩
  · exact ⟨_, cap, hv⟩
theorem strB_get {bs : List UInt8} {i : Nat} (hi : i < bs.length) (h : i < (strB bs).size) : (strB bs)[i]'h = bs[i]'hi := by
  rfl
/-- the two sums as one number -/
def sumV (bs : List UInt8) : Int := (((sums bs 1 0).2 * 65536 + (sums bs 1 0).1 : Nat) : Int)
theorem sums_bd : ∀ (bs : List UInt8) (a b : Nat), a ≤ 65520 → b ≤ 65520 → (sums bs a b).1 ≤ 65520 ∧ (sums bs a b).2 ≤ 65520
  | [], a, b, h1, h2 => ⟨h1, h2⟩
  | c :: t, a, b, h1, h2 => sums_bd t _ _ (by omega) (by omega)
set_option maxHeartbeats 1600000 in
theorem sumP_any (bs : List UInt8) (w : World) (hs : bs.length ≤ 4194304) :
    Calls Try.prog 41 #[.string (strB bs)] w fun e w' => e = .returned (.int .i64 (sumV bs)) ∧ w' = w := by
  obtain ⟨s, hsB⟩ : ∃ s, s = strB bs := ⟨_, rfl⟩
  rw [← hsB]
  have hsz : s.size = bs.length := by rw [hsB]; exact strB_size bs
  have Hix := hidA (fun (i : Nat) (hi : i < bs.length) (h : i < s.size) => show s[i] = bs[i] from by subst hsB; exact strB_get hi h)
  clear hsB
  go_enter Try.func41, Try.ntmps41
  go_wp2_with fail
  go_loopw [3, 4, 5] (fun s3 s4 s5 wr => ∃ (i a b : Nat), i ≤ bs.length ∧ s5 = .int .i64 i ∧ s3 = .int .i64 a ∧ s4 = .int .i64 b ∧ a ≤ 65520 ∧ b ≤ 65520 ∧ Hid (sums bs 1 0 = sums (bs.drop i) a b) ∧ wr = w) (fun _ _ s5 _ => bs.length - (intOf s5).toNat)
  case atStart => exact ⟨0, 1, 0, Nat.zero_le _, rfl, rfl, rfl, by omega, by omega, hidA rfl, by first | rfl | trivial⟩
  case round =>
    obtain ⟨i, a, b, hi, rfl, rfl, rfl, ha, hb, Hs, rfl⟩ := hrel
    by_cases hiL : i < bs.length
    · have i0 : (0 : Int) ≤ i := by omega
      have i1 : (i : Int) < bs.length := by omega
      have hix := fun h => Hix.out i hiL h
      have hs2 := Hs.out
      rw [List.drop_eq_getElem_cons hiL, sums] at hs2
      have Hs2 := hidA hs2
      generalize bs[i] = c at *
      have hc := UInt8.toNat_lt c
      have f1 : ((a : Int) + (c.toNat : Int)).tmod 65521 = (((a + c.toNat) % 65521 : Nat) : Int) := by rw [Int.tmod_eq_emod_of_nonneg (by omega)]; omega
      generalize ha2 : (a + c.toNat) % 65521 = a2 at *
      have ha3 : a2 ≤ 65520 := by omega
      have f2 : ((b : Int) + (a2 : Int)).tmod 65521 = (((b + a2) % 65521 : Nat) : Int) := by rw [Int.tmod_eq_emod_of_nonneg (by omega)]; omega
      generalize hb2 : (b + a2) % 65521 = b2 at *
      have hb3 : b2 ≤ 65520 := by omega
      clear hs2 Hs ha2 hb2
      go_wp2_with fail
      go_roundw
      case rel => exact ⟨i + 1, a2, b2, by omega, by go_num, rfl, rfl, ha3, hb3, Hs2, by first | rfl | trivial⟩
      case measure => simp [intOf]; omega
    · obtain rfl : i = bs.length := by omega
      have hs2 := Hs.out
      rw [List.drop_length, sums] at hs2
      have hv : sumV bs = (b : Int) * 65536 + a := by unfold sumV; rw [hs2]; dsimp only; omega
      have Hv := hidA hv
      clear hs2 hv Hs
      go_wp2_with fail
      go_ret
      exact ⟨by rw [Hv.out]; first | rfl | simp, rfl⟩
set_option maxHeartbeats 1600000 in
theorem sumR_any (bs : List UInt8) (w : World) (hs : bs.length ≤ 4194304) :
    Calls Try.prog 42 #[.string (strB bs)] w fun e w' => e = .returned (.int .i64 (sumV bs)) ∧ w' = w := by
  obtain ⟨s, hsB⟩ : ∃ s, s = strB bs := ⟨_, rfl⟩
  rw [← hsB]
  have hsz : s.size = bs.length := by rw [hsB]; exact strB_size bs
  have Hix := hidA (fun (i : Nat) (hi : i < bs.length) (h : i < s.size) => show s[i] = bs[i] from by subst hsB; exact strB_get hi h)
  clear hsB
  go_enter Try.func42, Try.ntmps42
  go_wp2_with fail
  go_loopw [3, 4, 8] (fun s3 s4 s8 wr => ∃ (i a b : Nat), i ≤ bs.length ∧ s8 = .int .i64 i ∧ s3 = .int .i64 a ∧ s4 = .int .i64 b ∧ a ≤ 65520 ∧ b ≤ 65520 ∧ Hid (sums bs 1 0 = sums (bs.drop i) a b) ∧ wr = w) (fun _ _ s8 _ => bs.length - (intOf s8).toNat)
  case atStart => exact ⟨0, 1, 0, Nat.zero_le _, rfl, rfl, rfl, by omega, by omega, hidA rfl, by first | rfl | trivial⟩
  case round =>
    obtain ⟨i, a, b, hi, rfl, rfl, rfl, ha, hb, Hs, rfl⟩ := hrel
    by_cases hiL : i < bs.length
    · have i0 : (0 : Int) ≤ i := by omega
      have i1 : (i : Int) < bs.length := by omega
      have hix := fun h => Hix.out i hiL h
      have hs2 := Hs.out
      rw [List.drop_eq_getElem_cons hiL, sums] at hs2
      have Hs2 := hidA hs2
      generalize bs[i] = c at *
      have hc := UInt8.toNat_lt c
      have f1 : ((a : Int) + (c.toNat : Int)).tmod 65521 = (((a + c.toNat) % 65521 : Nat) : Int) := by rw [Int.tmod_eq_emod_of_nonneg (by omega)]; omega
      generalize ha2 : (a + c.toNat) % 65521 = a2 at *
      have ha3 : a2 ≤ 65520 := by omega
      have f2 : ((b : Int) + (a2 : Int)).tmod 65521 = (((b + a2) % 65521 : Nat) : Int) := by rw [Int.tmod_eq_emod_of_nonneg (by omega)]; omega
      generalize hb2 : (b + a2) % 65521 = b2 at *
      have hb3 : b2 ≤ 65520 := by omega
      clear hs2 Hs ha2 hb2
      go_wp2_with fail
      go_roundw
      case rel => exact ⟨i + 1, a2, b2, by omega, by go_num, rfl, rfl, ha3, hb3, Hs2, by first | rfl | trivial⟩
      case measure => simp [intOf]; omega
    · obtain rfl : i = bs.length := by omega
      have hs2 := Hs.out
      rw [List.drop_length, sums] at hs2
      have hv : sumV bs = (b : Int) * 65536 + a := by unfold sumV; rw [hs2]; dsimp only; omega
      have Hv := hidA hv
      clear hs2 hv Hs
      go_wp2_with fail
      go_ret
      exact ⟨by rw [Hv.out]; first | rfl | simp, rfl⟩
end Go.Proofs.Ytdfegkpdnofdoaa
