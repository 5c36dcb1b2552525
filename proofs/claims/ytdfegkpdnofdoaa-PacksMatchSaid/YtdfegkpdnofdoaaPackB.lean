/- Contracts: export.Pack, tarnref2.Packed. -/
import Derived.Test.YtdfegkpdnofdoaaPackA
namespace Go.Proofs.Ytdfegkpdnofdoaa
open Go.RowKit
attribute [local go_sem ↓] Go.wp_at_zero Go.wp_at_succ

theorem strB_size (l : List UInt8) : (strB l).size = l.length := by simp [strB, ByteArray.size]
theorem strB_append (l m : List UInt8) : strB l ++ strB m = strB (l ++ m) := by
  unfold strB
  rw [ByteArray.mk_append_mk]
theorem getD_take {q : List Int} {n : Nat} (hq : q.length = n) {k : Nat} (hk : k < n) : packL (q.take (k + 1)) = packL (q.take k) ++ pk (zig (q.getD k 0)) := by
  have hk' : k < q.length := by omega
  rw [List.take_succ_eq_append_getElem hk', packL_snoc]
  simp [List.getD_eq_getElem?_getD, hk']
theorem take_len {q : List Int} {n : Nat} (hq : q.length = n) (hqb : ∀ k, k < n → -1099511627776 ≤ q.getD k 0 ∧ q.getD k 0 ≤ 1099511627776) {k : Nat} (hk : k ≤ n) : (packL (q.take k)).length ≤ 6 * k := by
  have h1 := packL_len (l := q.take k) (fun x hx => by
    obtain ⟨j, hj, rfl⟩ := List.getElem_of_mem hx
    rw [List.length_take] at hj
    rw [List.getElem_take]
    have h2 := hqb j (by omega)
    have e : q.getD j 0 = q[j]'(by omega) := by simp [List.getD_eq_getElem?_getD, show j < q.length by omega]
    rw [e] at h2
    exact h2)
  rw [List.length_take] at h1
  omega
theorem packE_get {q : List Int} {n : Nat} (hq : q.length = n) (h : packE q = 0) : n ≤ 65536 ∧ ∀ k, k < n → -1099511627776 ≤ q.getD k 0 ∧ q.getD k 0 ≤ 1099511627776 := by
  obtain ⟨h1, h2⟩ := packE_zero h
  refine ⟨by omega, fun k hk => ?_⟩
  have hk' : k < q.length := by omega
  have e : q.getD k 0 = q[k] := by simp [List.getD_eq_getElem?_getD, hk']
  rw [e]
  exact h2 _ (List.getElem_mem hk')
set_option maxHeartbeats 1600000 in
theorem Pack_ok (A : Option Addr) (n c : Nat) (q : List Int) (w : World) (hq : q.length = n) (hR : Rd w A (iL q)) (hb : n ≤ 140737488351232) (hE : packE q = 0) :
    Calls Try.prog 37 #[.slice A n c] w fun e w' => e = .returned (.tuple #[.string (strB (packL q)), .int .i64 0]) ∧ Ext w w' := by
  obtain ⟨h1, h2⟩ := packE_get hq hE
  have HC := fun (w : World) (h : Rd w A (iL q)) => hidA (checkPacked_any A n c q w hq h hb)
  rw [hE] at HC
  have HP := fun (w : World) (h : Rd w A (iL q)) => hidA (pack_any A n c q w hq h h1 h2)
  clear hq h1 h2 hE
  generalize strB (packL q) = s at *
  go_enter Try.func37, Try.ntmps37
  go_wp2_with (first | (go_at_call 69; refine ((HC _ hR).out).mono ?_; rintro e w1 ⟨rfl, hw1⟩; rw [hw1]; clear hw1 w1) | (go_at_call 70; refine ((HP _ hR).out).mono ?_; rintro e w2 ⟨rfl, hx2⟩))
  go_ret2
  exact ⟨by first | rfl | simp, hx2⟩
set_option maxHeartbeats 1600000 in
theorem Pack_bad (A : Option Addr) (n c : Nat) (q : List Int) (w : World) (hq : q.length = n) (hR : Rd w A (iL q)) (hb : n ≤ 140737488351232) (hE : packE q ≠ 0) :
    Calls Try.prog 37 #[.slice A n c] w fun e w' => e = .returned (.tuple #[.string ⟨#[]⟩, .int .i64 (packE q)]) ∧ Ext w w' := by
  have HC := fun (w : World) (h : Rd w A (iL q)) => hidA (checkPacked_any A n c q w hq h hb)
  have hne : (packE q != 0) = true := by simpa using hE
  generalize packE q = E at *
  clear hq
  go_enter Try.func37, Try.ntmps37
  go_wp2_with (go_at_call 69; refine ((HC _ hR).out).mono ?_; rintro e w1 ⟨rfl, hw1⟩; rw [hw1]; clear hw1 w1)
  go_ret2
  exact ⟨by first | rfl | simp, Ext.refl _⟩
set_option maxRecDepth 100000 in
set_option maxHeartbeats 6400000 in
theorem packed_any (A : Option Addr) (n c : Nat) (q : List Int) (w : World) (hq : q.length = n) (hR : Rd w A (iL q)) (hn : n ≤ 65536) (hqb : ∀ k, k < n → -1099511627776 ≤ q.getD k 0 ∧ q.getD k 0 ≤ 1099511627776) :
    Calls Try.prog 38 #[.slice A n c] w fun e w' => e = .returned (.string (strB (packL q))) ∧ Ext w w' := by
  have Hq := hidA hq
  have Hqb := hidA hqb
  have Htk := hidA (fun (k : Nat) (hk : k < n) => getD_take hq hk)
  have Hfin := hidA (show packL (q.take n) = packL q from by rw [← hq, List.take_length])
  have Hlen := hidA (fun (k : Nat) (hk : k ≤ n) => take_len hq hqb hk)
  clear hq hqb
  go_enter Try.func38, Try.ntmps38
  go_wp2_with fail
  go_loopw [3, 9] (fun s3 s9 wr => ∃ k : Nat, k ≤ n ∧ s9 = .int .i64 k ∧ s3 = .string (strB (packL (q.take k))) ∧ Ext w wr) (fun _ s9 _ => n - (intOf s9).toNat)
  case atStart => exact ⟨0, Nat.zero_le _, rfl, rfl, Ext.refl _⟩
  case round =>
    obtain ⟨k, hk, rfl, rfl, hx⟩ := hrel
    by_cases hkn : k < n
    · have hkq : k < q.length := by rw [Hq.out]; exact hkn
      obtain ⟨ad, rfl, hbk, hcv⟩ := (hR.ext hx).at (k := k) (by simpa [iL] using hkq)
      have ck : wr.cell? (ad.add k) = some (.int .i64 (q.getD k 0)) := hcv k _ (by simp [iL, hkq, List.getD_eq_getElem?_getD])
      have Htk1 := hidA (Htk.out k hkn)
      obtain ⟨hz1', hz2'⟩ := Hqb.out k hkn
      have hl1 := Hlen.out k hk
      generalize q.getD k 0 = z at *
      have i0' : (0 : Int) ≤ k := by omega
      have i1 : (k : Int) < n := by omega
      have hzb := zig_bd hz1' hz2'
      clear hcv hbk
      have HL := hidA hl1
      clear hl1
      generalize packL (q.take k) = P0 at *
      have hpl := pk_len 5 (zig z) (Nat.lt_of_le_of_lt hzb (by decide))
      have Hpl := hidA hpl
      clear hpl
      by_cases hz0 : z < 0
      case' pos =>
        have e1 : -2 * z - 1 = ((zig z : Nat) : Int) := by unfold zig; rw [if_pos hz0]; omega
      case' neg =>
        have e1 : 2 * z = ((zig z : Nat) : Int) := by unfold zig; rw [if_neg hz0]; omega
      all_goals
        generalize zig z = m0 at *
        go_wp2_with fail
        clear ck e1 hz0 hz1' hz2'
        obtain ⟨wo, rfl⟩ : ∃ wo, wo = wr := ⟨_, rfl⟩
        go_loopw [3, 6] (fun s3 s6 wy => ∃ (m : Nat) (d : List UInt8), s6 = .int .i64 m ∧ m ≤ 2199023255552 ∧ s3 = .string (strB (P0 ++ d)) ∧ Hid (d ++ pk m = pk m0) ∧ Ext w wy) (fun _ s6 _ => (intOf s6).toNat)
        case atStart => exact ⟨m0, [], rfl, hzb, by simp, hidA rfl, hx⟩
        case round =>
          clear hx
          obtain ⟨m, d, rfl, hm, rfl, Hd, hx⟩ := hrel
          have hdl : d.length ≤ 6 := by have h1 := Hd.out; have h2 := Hpl.out; rw [← h1, List.length_append] at h2; omega
          have hsz : (P0 ++ d).length ≤ 393222 := by rw [List.length_append]; have := HL.out; omega
          have hss := strB_size (P0 ++ d)
          by_cases hm1 : 128 ≤ m
          · have hm1' : (128 : Int) ≤ (m : Int) := by omega
            have hd2 := Hd.out
            rw [pk_large hm1] at hd2
            have Hd2 := hidA hd2
            have f1 : (m : Int).tmod 128 = ((m % 128 : Nat) : Int) := by rw [Int.tmod_eq_emod_of_nonneg (by omega)]; rfl
            have f4 : (m : Int).tdiv 128 = ((m / 128 : Nat) : Int) := by rw [Int.tdiv_eq_ediv_of_nonneg (by omega)]; rfl
            have hb4 : m / 128 < m ∧ m / 128 ≤ 2199023255552 := by omega
            have hmod : m % 128 < 128 := Nat.mod_lt _ (by omega)
            have hby := byte_nat (m := m % 128 + 128) (by omega)
            generalize UInt8.ofNat (m % 128 + 128) = bb at *
            generalize m % 128 = a at *
            generalize m / 128 = b4 at *
            have f3 : IntKind.u8.wrap (128 + (a : Int)) = (bb.toNat : Int) := by rw [hby]; have := IntWalk.u8_in (128 + (a : Int)) ⟨by omega, by omega⟩; omega
            have hcv : (convert 105 9 (.slice (some ⟨wr.heap.size, 0, none⟩) 1 1)).run Try.prog (wr.alloc (.cells #[.int .u8 (bb.toNat : Int)] 5)) = .ok (.string ⟨[bb].toArray⟩) (wr.alloc (.cells #[.int .u8 (bb.toNat : Int)] 5)) := run_convert_bytes_back (P := Try.prog) (wr.alloc (.cells #[.int .u8 (bb.toNat : Int)] 5)) 105 9 5 ⟨wr.heap.size, 0, none⟩ 1 [bb] Try.underlying105 Try.underlying5 Try.underlying9 (fun j hj => by
              obtain rfl : j = 0 := by simp at hj; omega
              exact World.news_of_block (w := wr.alloc (.cells #[.int .u8 (bb.toNat : Int)] 5)) (cs := #[.int .u8 (bb.toNat : Int)]) (t := 5) (fr := (0, 0)) (heap_alloc_new wr _) 0 _ rfl)
            have hap : strB (P0 ++ d) ++ (⟨[bb].toArray⟩ : ByteArray) = strB (P0 ++ (d ++ [bb])) := by rw [← List.append_assoc, ← strB_append]; rfl
            have hs1 : (⟨[bb].toArray⟩ : ByteArray).size = 1 := rfl
            generalize (⟨[bb].toArray⟩ : ByteArray) = s1 at *
            generalize strB (P0 ++ d) = s0 at *
            have Hm2 := hidA hb4
            have Hd3 := hidA (show (d ++ [bb]) ++ pk b4 = pk m0 from by rw [List.append_assoc]; exact Hd2.out)
            have Hxa := hidA (hx.alloc (.cells #[.int .u8 (bb.toNat : Int)] 5))
            clear hd2 hby hx Hd
            go_wp2_with fail
            go_roundw
            case rel => exact ⟨b4, d ++ [bb], by first | rfl | go_num, Hm2.out.2, by first | rfl | (rw [hap]), Hd3, Hxa.out⟩
            case measure => have := Hm2.out.1; simp [intOf]; omega
          · have hm1' : ¬ ((128 : Int) ≤ (m : Int)) := by omega
            have hd2 := Hd.out
            rw [pk_small hm1] at hd2
            have hby := byte_nat (m := m) (by omega)
            generalize UInt8.ofNat m = bb at *
            have f3 : IntKind.u8.wrap (m : Int) = (bb.toNat : Int) := by rw [hby]; exact IntWalk.u8_in _ ⟨by omega, by omega⟩
            have hcv : (convert 105 9 (.slice (some ⟨wr.heap.size, 0, none⟩) 1 1)).run Try.prog (wr.alloc (.cells #[.int .u8 (bb.toNat : Int)] 5)) = .ok (.string ⟨[bb].toArray⟩) (wr.alloc (.cells #[.int .u8 (bb.toNat : Int)] 5)) := run_convert_bytes_back (P := Try.prog) (wr.alloc (.cells #[.int .u8 (bb.toNat : Int)] 5)) 105 9 5 ⟨wr.heap.size, 0, none⟩ 1 [bb] Try.underlying105 Try.underlying5 Try.underlying9 (fun j hj => by
              obtain rfl : j = 0 := by simp at hj; omega
              exact World.news_of_block (w := wr.alloc (.cells #[.int .u8 (bb.toNat : Int)] 5)) (cs := #[.int .u8 (bb.toNat : Int)]) (t := 5) (fr := (0, 0)) (heap_alloc_new wr _) 0 _ rfl)
            have hap : strB (P0 ++ d) ++ (⟨[bb].toArray⟩ : ByteArray) = strB (packL (q.take (k + 1))) := by
              rw [Htk1.out, ← hd2, ← List.append_assoc, ← strB_append]; rfl
            have hs1 : (⟨[bb].toArray⟩ : ByteArray).size = 1 := rfl
            generalize (⟨[bb].toArray⟩ : ByteArray) = s1 at *
            generalize strB (P0 ++ d) = s0 at *
            have Hxa := hidA (hx.alloc (.cells #[.int .u8 (bb.toNat : Int)] 5))
            clear hd2 hby hx Hd
            go_wp2_with fail
            go_roundw
            case rel => exact ⟨k + 1, by omega, by go_num, by first | rfl | (rw [hap]), Hxa.out⟩
            case measure => simp [intOf]; omega
    · obtain rfl : n = k := by omega
      have HP0 := hidA (show packL (q.take n) = packL q from Hfin.out)
      go_wp2_with fail
      go_ret
      exact ⟨by rw [← HP0.out]; first | rfl | simp, hx⟩
end Go.Proofs.Ytdfegkpdnofdoaa
