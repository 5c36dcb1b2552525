/- Contracts: export.checkPacked, pack, Pack; tarnref2.Packed. -/
import Derived.Test.YtdfegkpdnofdoaaPackP
import Derived.Test.YtdfegkpdnofdoaaWrites
import Derived.Test.YtdfegkpdnofdoaaWordsB
import Derived.Laws.Bits128
import Derived.Laws.IdiomStrings
import Derived.Laws.Concat
import Derived.Deep.AppendLies
import Derived.Deep.DeepCutAuto
namespace Go.Proofs.Ytdfegkpdnofdoaa
open Go.RowKit
attribute [local go_sem ↓] Go.wp_at_zero Go.wp_at_succ

def iL (l : List Int) : List Value := l.map (.int .i64)
def u8b (l : List UInt8) : List Value := l.map fun b => .int .u8 (b.toNat : Int)
theorem u8b_snoc (l : List UInt8) (b : UInt8) : u8b (l ++ [b]) = u8b l ++ [.int .u8 (b.toNat : Int)] := by simp [u8b]
/-- bytes as a string -/
def strB (l : List UInt8) : ByteArray := ⟨l.toArray⟩
/-- a slice of bytes of the call's own -/
def OwnB (w : World) (base : Nat) (v : Value) (l : List UInt8) : Prop := w.ownsRow base 5 1 v l.length (u8b l)
theorem OwnB.nil (w : World) (base : Nat) : OwnB w base (.slice none 0 0) [] := World.ownsRow_nil w base _ 1
theorem OwnB.ext {w w' : World} {base : Nat} {v : Value} {l : List UInt8} (h : OwnB w base v l) (hx : Ext w w') : OwnB w' base v l := World.ownsRow.kept h (grown_ext hx none) (by cases h : v.ownBlock <;> simp)
theorem OwnB.snoc {w : World} {base : Nat} {v : Value} {l : List UInt8} {b : UInt8} (h : w.ownsRow base 5 1 v (l.length + 1) (u8b l ++ [.int .u8 (b.toNat : Int)])) : OwnB w base v (l ++ [b]) := by
  unfold OwnB
  rw [u8b_snoc, List.length_append]
  exact h
theorem OwnB.form {w : World} {base : Nat} {v : Value} {l : List UInt8} (h : OwnB w base v l) : v = .slice none 0 0 ∧ l = [] ∨ ∃ g cap, v = .slice (some ⟨g, 0, none⟩) l.length cap := by
  rcases h.2 with ⟨h1, h2⟩ | ⟨g, cap, cur, hv, _⟩
  · exact .inl ⟨h1, List.eq_nil_of_length_eq_zero h2⟩
  · exact .inr ⟨g, cap, hv⟩
theorem OwnB.str {w : World} {base : Nat} {v : Value} {l : List UInt8} (h : OwnB w base v l) : (convert 105 9 v).run Try.prog w = .ok (.string (strB l)) w := by
  rcases h.form with ⟨rfl, rfl⟩ | ⟨g, cap, rfl⟩
  · simp [convert, run_underlying Try.underlying105, run_underlying Try.underlying9, run_underlying Try.underlying5, Conv.bytesToString, strB]
    try rfl
  · refine run_convert_bytes_back w _ _ 5 ⟨g, 0, none⟩ cap l Try.underlying105 Try.underlying5 Try.underlying9 fun j hj => ?_
    exact World.ownsRow.cells h (g := g) rfl j _ (by simp [u8b, hj])
/-- the error of integers that are packed -/
def packE (l : List Int) : Int := if 65536 < l.length then 4 else if ∃ k, k < l.length ∧ (l.getD k 0 < -1099511627776 ∨ 1099511627776 < l.getD k 0) then 3 else 0
theorem packE_zero {l : List Int} (h : packE l = 0) : l.length ≤ 65536 ∧ ∀ n ∈ l, -1099511627776 ≤ n ∧ n ≤ 1099511627776 := by
  unfold packE at h
  split at h
  · cases h
  · split at h
    · cases h
    · rename_i h1 h2
      refine ⟨by omega, fun n hn => ?_⟩
      obtain ⟨k, hk, rfl⟩ := List.getElem_of_mem hn
      have h3 : ¬ (l.getD k 0 < -1099511627776 ∨ 1099511627776 < l.getD k 0) := fun h3 => h2 ⟨k, hk, h3⟩
      have e : l.getD k 0 = l[k] := by simp [List.getD_eq_getElem?_getD, hk]
      rw [e] at h3
      omega
set_option maxRecDepth 100000 in
set_option maxHeartbeats 3200000 in
theorem checkPacked_any (A : Option Addr) (n c : Nat) (q : List Int) (w : World) (hq : q.length = n) (hR : Rd w A (iL q)) (hb : n ≤ 140737488351232) :
    Calls Try.prog 69 #[.slice A n c] w fun e w' => e = .returned (.int .i64 (packE q)) ∧ w' = w := by
  have Hq := hidA hq
  have H4 := hidA (fun (h : 65536 < n) => show packE q = 4 from by unfold packE; rw [if_pos (by rw [hq]; exact h)])
  have H3 := hidA (fun (h : ¬ 65536 < n) (k : Nat) (hk : k < n) (hc : q.getD k 0 < -1099511627776 ∨ 1099511627776 < q.getD k 0) => show packE q = 3 from by
    unfold packE
    rw [if_neg (by rw [hq]; exact h), if_pos ⟨k, by rw [hq]; exact hk, hc⟩])
  have H0 := hidA (fun (h : ¬ 65536 < n) (hc : ∀ k, k < n → ¬ (q.getD k 0 < -1099511627776 ∨ 1099511627776 < q.getD k 0)) => show packE q = 0 from by
    unfold packE
    rw [if_neg (by rw [hq]; exact h), if_neg (by rintro ⟨k, hk, h1⟩; exact hc k (by rw [← hq]; exact hk) h1)])
  generalize packE q = E at *
  clear hq
  go_enter Try.func69, Try.ntmps69
  by_cases h1 : 65536 < n
  · have h1' : (65536 : Int) < (n : Int) := by omega
    have hE := hidA (H4.out h1)
    go_wp2_with fail
    go_ret
    exact ⟨by rw [hE.out]; first | rfl | simp, rfl⟩
  · have h1' : ¬ ((65536 : Int) < (n : Int)) := by omega
    go_wp2_with fail
    go_loopw [10] (fun s10 wr => ∃ k : Nat, k ≤ n ∧ s10 = .int .i64 k ∧ Hid (∀ j, j < k → ¬ (q.getD j 0 < -1099511627776 ∨ 1099511627776 < q.getD j 0)) ∧ wr = w) (fun s10 _ => n - (intOf s10).toNat)
    case atStart => exact ⟨0, Nat.zero_le _, rfl, hidA (fun j h => by omega), by first | rfl | trivial⟩
    case round =>
      obtain ⟨k, hk, rfl, Hk, rfl⟩ := hrel
      by_cases hkn : k < n
      · have hkq : k < q.length := by rw [Hq.out]; exact hkn
        obtain ⟨ad, rfl, hbk, hcv⟩ := hR.at (k := k) (by simpa [iL] using hkq)
        have ck : wr.cell? (ad.add k) = some (.int .i64 (q.getD k 0)) := hcv k _ (by simp [iL, hkq, List.getD_eq_getElem?_getD])
        have H3k := hidA (H3.out h1 k hkn)
        have Hk2 := hidA (fun (h : ¬ (q.getD k 0 < -1099511627776 ∨ 1099511627776 < q.getD k 0)) => show ∀ j, j < k + 1 → ¬ (q.getD j 0 < -1099511627776 ∨ 1099511627776 < q.getD j 0) from fun j hj => by
          by_cases e : j = k
          · rw [e]; exact h
          · exact Hk.out j (by omega))
        generalize q.getD k 0 = z at ck H3k Hk2
        have i0 : (0 : Int) ≤ k := by omega
        have i1 : (k : Int) < n := by omega
        by_cases hz1 : z < -1099511627776
        · have hE := hidA (H3k.out (.inl hz1))
          go_wp2_with fail
          go_ret
          exact ⟨by rw [hE.out]; first | rfl | simp, rfl⟩
        · by_cases hz2 : 1099511627776 < z
          · have hE := hidA (H3k.out (.inr hz2))
            go_wp2_with fail
            go_ret
            exact ⟨by rw [hE.out]; first | rfl | simp, rfl⟩
          · have Hk3 := hidA (Hk2.out (by omega))
            go_wp2_with fail
            go_roundw
            case rel => exact ⟨k + 1, by omega, by go_num, Hk3, by first | rfl | trivial⟩
            case measure => simp [intOf]; omega
      · obtain rfl : n = k := by omega
        have hE := hidA (H0.out h1 Hk.out)
        go_wp2_with fail
        go_ret
        exact ⟨by rw [hE.out]; first | rfl | simp, rfl⟩
theorem and127_nat (m : Nat) : bits .and .i64 (m : Int) 127 = ((m % 128 : Nat) : Int) := by rw [i64_and127]; omega
theorem or128_nat (m : Nat) (h : m < 128) : bits .or .i64 (m : Int) 128 = ((m + 128 : Nat) : Int) := by
  have hc : bits .or .i64 (m : Int) 128 = bits .or .i64 128 (m : Int) := by simp only [bits, BitVec.or_comm]
  rw [hc, bits_join .i64 63 (by decide) (fun n h0 h1 => IntWalk.i64_in n ⟨by omega, by omega⟩) 7 128 m (by decide) (by decide) (by decide) (by omega) (by omega) (by omega)]
  omega
theorem byte_nat {m : Nat} (h : m < 256) : ((UInt8.ofNat m).toNat : Int) = (m : Int) := by rw [UInt8.toNat_ofNat', Nat.mod_eq_of_lt (by omega)]
set_option maxRecDepth 100000 in
set_option maxHeartbeats 6400000 in
theorem pack_any (A : Option Addr) (n c : Nat) (q : List Int) (w : World) (hq : q.length = n) (hR : Rd w A (iL q)) (hn : n ≤ 65536) (hqb : ∀ k, k < n → -1099511627776 ≤ q.getD k 0 ∧ q.getD k 0 ≤ 1099511627776) :
    Calls Try.prog 70 #[.slice A n c] w fun e w' => e = .returned (.string (strB (packL q))) ∧ Ext w w' := by
  obtain ⟨i0, hi0, hz0', hz1, hz2⟩ := info_parts Try.infoU8
  have Hq := hidA hq
  have Hqb := hidA hqb
  have Htk := hidA (fun (k : Nat) (hk : k < n) => show packL (q.take (k + 1)) = packL (q.take k) ++ pk (zig (q.getD k 0)) from by
    have hk' : k < q.length := by omega
    rw [List.take_succ_eq_append_getElem hk', packL_snoc]
    simp [List.getD_eq_getElem?_getD, hk'])
  have Hfin := hidA (show packL (q.take n) = packL q from by rw [← hq, List.take_length])
  have Hlen := hidA (fun (k : Nat) (hk : k ≤ n) => show (packL (q.take k)).length ≤ 6 * k from by
    have h1 := packL_len (l := q.take k) (fun x hx => by
      obtain ⟨j, hj, rfl⟩ := List.getElem_of_mem hx
      rw [List.length_take] at hj
      rw [List.getElem_take]
      have h2 := hqb j (by omega)
      have e : q.getD j 0 = q[j]'(by omega) := by simp [List.getD_eq_getElem?_getD, show j < q.length by omega]
      rw [e] at h2
      exact h2)
    rw [List.length_take] at h1
    omega)
  clear hq hqb
  go_enter Try.func70, Try.ntmps70
  go_wp2_with fail
  go_loopw [3, 9] (fun s3 s9 wr => ∃ k : Nat, k ≤ n ∧ s9 = .int .i64 k ∧ OwnB wr w.heap.size s3 (packL (q.take k)) ∧ Ext w wr) (fun _ s9 _ => n - (intOf s9).toNat)
  case atStart => exact ⟨0, Nat.zero_le _, rfl, OwnB.nil _ _, Ext.refl _⟩
  case round =>
    obtain ⟨k, hk, rfl, hO, hx⟩ := hrel
    by_cases hkn : k < n
    · have hkq : k < q.length := by rw [Hq.out]; exact hkn
      obtain ⟨ad, rfl, hbk, hcv⟩ := (hR.ext hx).at (k := k) (by simpa [iL] using hkq)
      have ck : wr.cell? (ad.add k) = some (.int .i64 (q.getD k 0)) := hcv k _ (by simp [iL, hkq, List.getD_eq_getElem?_getD])
      have Htk1 := hidA (Htk.out k hkn)
      obtain ⟨hz1', hz2'⟩ := Hqb.out k hkn
      have hl1 := Hlen.out k hk
      generalize q.getD k 0 = z at *
      have i0' : (0 : Int) ≤ k := by omega
      have i1 : (k : Int) < n := by omega
      have hzb := zig_bd hz1' hz2'
      clear hcv hbk
      have HL := hidA hl1
      clear hl1
      generalize packL (q.take k) = P0 at *
      have hpl := pk_len 5 (zig z) (Nat.lt_of_le_of_lt hzb (by decide))
      have Hpl := hidA hpl
      clear hpl
      by_cases hz0 : z < 0
      case' pos =>
        have e1 : -2 * z - 1 = ((zig z : Nat) : Int) := by unfold zig; rw [if_pos hz0]; omega
      case' neg =>
        have e1 : 2 * z = ((zig z : Nat) : Int) := by unfold zig; rw [if_neg hz0]; omega
      all_goals
        generalize zig z = m0 at *
        go_wp2_with fail
        clear ck e1 hz0 hz1' hz2'
        obtain ⟨wo, rfl⟩ : ∃ wo, wo = wr := ⟨_, rfl⟩
        go_loopw [3, 6] (fun s3 s6 wy => ∃ (m : Nat) (d : List UInt8), s6 = .int .i64 m ∧ m ≤ 2199023255552 ∧ OwnB wy w.heap.size s3 (P0 ++ d) ∧ Hid (d ++ pk m = pk m0) ∧ Ext w wy) (fun _ s6 _ => (intOf s6).toNat)
        case atStart => exact ⟨m0, [], rfl, hzb, by simpa using hO, hidA rfl, hx⟩
        case round =>
          clear hO hx
          obtain ⟨m, d, rfl, hm, hO, Hd, hx⟩ := hrel
          have hdl : d.length ≤ 6 := by have h1 := Hd.out; have h2 := Hpl.out; rw [← h1, List.length_append] at h2; omega
          have hsz : (P0 ++ d).length ≤ 393222 := by rw [List.length_append]; have := HL.out; omega
          have hs0 := hx.size
          by_cases hm1 : 128 ≤ m
          · have hm1' : (128 : Int) ≤ (m : Int) := by omega
            have hd2 := Hd.out
            rw [pk_large hm1] at hd2
            have Hd2 := hidA hd2
            have f1 := and127_nat m
            have hmod : m % 128 < 128 := Nat.mod_lt _ (by omega)
            have f2 := or128_nat (m % 128) hmod
            have f4 : (m : Int) / 128 = ((m / 128 : Nat) : Int) := by omega
            have hb4 : m / 128 < m ∧ m / 128 ≤ 2199023255552 := by omega
            have hby := byte_nat (m := m % 128 + 128) (by omega)
            generalize UInt8.ofNat (m % 128 + 128) = bb at *
            generalize m % 128 = a at *
            generalize m / 128 = b4 at *
            rw [← hby] at f2
            have f3 : IntKind.u8.wrap (bb.toNat : Int) = (bb.toNat : Int) := IntWalk.u8_in _ ⟨by omega, by have := UInt8.toNat_lt bb; omega⟩
            have hA3 := hidA (show (wr.alloc (.cells #[.int .u8 (bb.toNat : Int)] 5)).ownsRow w.heap.size 5 1 u3 (P0 ++ d).length (u8b (P0 ++ d)) from hO.ext ((Ext.refl _).alloc _))
            have hN3 := hidA (World.news_of_block (w := wr.alloc (.cells #[.int .u8 (bb.toNat : Int)] 5)) (cs := #[.int .u8 (bb.toNat : Int)]) (t := 5) (fr := (0, 0)) (heap_alloc_new wr _))
            have hone : Hid (∀ u ∈ ([Value.int .u8 (bb.toNat : Int)] : List Value), u.oneCell' = true) := (by intro u hu; simp at hu; subst hu; rfl)
            have hs3 := hidA (show w.heap.size ≤ (wr.alloc (.cells #[.int .u8 (bb.toNat : Int)] 5)).heap.size from by simp; omega)
            have Hxa := hidA (hx.alloc (.cells #[.int .u8 (bb.toNat : Int)] 5))
            have Hm2 := hidA hb4
            clear hd2 hby hmod hO hx Hd
            generalize hPd : P0 ++ d = Pd at *
            have HPd := hidA hPd
            clear hPd
            go_wp2_with (at_builtin; (refine wpList_append_own _ (by rfl) _ _ 105 (by rfl) w.heap.size 5 i0 (.int .u8 0) 1 1 Try.underlying105 hi0 hz0' hz1 hz2 rfl (by decide) u3 Pd.length (u8b Pd) (by rfl) hA3.out ⟨wr.heap.size, 0, none⟩ 1 1 [.int .u8 (bb.toNat : Int)] (by rfl) (by rfl) hN3.out hone.out (by unfold maxLen; omega) (by omega) hs3.out ?_; intro v4 w4 hown4 hgrow4 _))
            have hO2 : OwnB w4 w.heap.size v4 (P0 ++ (d ++ [bb])) := by
              have h := OwnB.snoc hown4
              rw [← HPd.out, List.append_assoc] at h
              exact h
            have hx4 := hidA (Hxa.out.grown hgrow4 (fun q he => (World.ownsRow.lt hA3.out q he).1))
            have HO2 := hidA hO2
            have Hd3 := hidA (show (d ++ [bb]) ++ pk b4 = pk m0 from by rw [List.append_assoc]; exact Hd2.out)
            clear hA3 hN3 hone hs3 Hxa hown4 hgrow4 hO2
            go_wp2_with fail
            go_roundw
            case rel => exact ⟨b4, d ++ [bb], by first | rfl | go_num, Hm2.out.2, HO2.out, Hd3, hx4.out⟩
            case measure => have := Hm2.out.1; simp [intOf]; omega
          · have hm1' : ¬ ((128 : Int) ≤ (m : Int)) := by omega
            have hd2 := Hd.out
            rw [pk_small hm1] at hd2
            have hby := byte_nat (m := m) (by omega)
            generalize UInt8.ofNat m = bb at *
            have hts : P0 ++ (d ++ [bb]) = packL (q.take (k + 1)) := by rw [hd2, Htk1.out]
            have Hts := hidA hts
            have f3 : IntKind.u8.wrap (m : Int) = (bb.toNat : Int) := by rw [hby]; exact IntWalk.u8_in _ ⟨by omega, by omega⟩
            have hA3 := hidA (show (wr.alloc (.cells #[.int .u8 (bb.toNat : Int)] 5)).ownsRow w.heap.size 5 1 u3 (P0 ++ d).length (u8b (P0 ++ d)) from hO.ext ((Ext.refl _).alloc _))
            have hN3 := hidA (World.news_of_block (w := wr.alloc (.cells #[.int .u8 (bb.toNat : Int)] 5)) (cs := #[.int .u8 (bb.toNat : Int)]) (t := 5) (fr := (0, 0)) (heap_alloc_new wr _))
            have hone : Hid (∀ u ∈ ([Value.int .u8 (bb.toNat : Int)] : List Value), u.oneCell' = true) := (by intro u hu; simp at hu; subst hu; rfl)
            have hs3 := hidA (show w.heap.size ≤ (wr.alloc (.cells #[.int .u8 (bb.toNat : Int)] 5)).heap.size from by simp; omega)
            have Hxa := hidA (hx.alloc (.cells #[.int .u8 (bb.toNat : Int)] 5))
            clear hd2 hby hO hx Hd hts
            generalize hPd : P0 ++ d = Pd at *
            have HPd := hidA hPd
            clear hPd
            go_wp2_with (at_builtin; (refine wpList_append_own _ (by rfl) _ _ 105 (by rfl) w.heap.size 5 i0 (.int .u8 0) 1 1 Try.underlying105 hi0 hz0' hz1 hz2 rfl (by decide) u3 Pd.length (u8b Pd) (by rfl) hA3.out ⟨wr.heap.size, 0, none⟩ 1 1 [.int .u8 (bb.toNat : Int)] (by rfl) (by rfl) hN3.out hone.out (by unfold maxLen; omega) (by omega) hs3.out ?_; intro v4 w4 hown4 hgrow4 _))
            have hO2 : OwnB w4 w.heap.size v4 (packL (q.take (k + 1))) := by
              have h := OwnB.snoc hown4
              rw [← HPd.out, List.append_assoc, Hts.out] at h
              exact h
            have hx4 := hidA (Hxa.out.grown hgrow4 (fun q he => (World.ownsRow.lt hA3.out q he).1))
            have HO2 := hidA hO2
            clear hA3 hN3 hone hs3 Hxa hown4 hgrow4 hO2
            go_wp2_with fail
            go_roundw
            case rel => exact ⟨k + 1, by omega, by go_num, HO2.out, hx4.out⟩
            case measure => simp [intOf]; omega
    · obtain rfl : n = k := by omega
      have hstr := hO.str
      rw [Hfin.out] at hstr
      obtain ⟨P0, hP0⟩ : ∃ P0, P0 = packL q := ⟨_, rfl⟩
      rw [← hP0] at hstr
      have HP0 := hidA hP0
      clear hP0
      go_wp2_with fail
      go_ret
      exact ⟨by rw [← HP0.out]; first | rfl | simp, hx⟩
end Go.Proofs.Ytdfegkpdnofdoaa
