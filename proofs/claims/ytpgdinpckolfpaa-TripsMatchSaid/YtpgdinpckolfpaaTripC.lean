/- Contracts: roads between sites in memory; field.Finite of one single; road.checkRoads. -/
import Derived.Test.YtpgdinpckolfpaaTripB
import Derived.Test.YtpgdinpckolfpaaBaseC
import Derived.Test.YtpgdinpckolfpaaRdD
namespace Go.Proofs.Ytpgdinpckolfpaa
open Go.RowKit
attribute [local go_sem ↓] Go.wp_at_zero Go.wp_at_succ
attribute [local go_sem] run_store_float

/-- a road -/
structure RoR where
  a : Int
  b : Int
  A : Option Addr
  n : Nat
  c : Nat
  p : Nat
instance : Inhabited RoR := ⟨⟨0, 0, none, 0, 0, 0⟩⟩
def RoR.cells (r : RoR) : List Value := [.int .i64 r.a, .int .i64 r.b, .slice r.A r.n r.c, .float .f32 r.p]
def rocells (l : List RoR) : List Value := l.flatMap RoR.cells
theorem rocells_length : ∀ l : List RoR, (rocells l).length = l.length * 4
  | [] => rfl
  | r :: t => by
    show (r.cells ++ rocells t).length = _
    rw [List.length_append, rocells_length t]
    show 4 + t.length * 4 = _
    simp
    omega
theorem rocells_get : ∀ {l : List RoR} {k i : Nat} (hk : k < l.length), i < 4 → (rocells l)[k * 4 + i]? = (l[k].cells)[i]?
  | x :: r, 0, i, _, hi => by
    show (x.cells ++ rocells r)[0 * 4 + i]? = _
    rw [Nat.zero_mul, Nat.zero_add, List.getElem?_append_left (show i < x.cells.length from hi)]
    rfl
  | x :: r, k + 1, i, hk, hi => by
    have hk' : k < r.length := by simpa using hk
    show (x.cells ++ rocells r)[(k + 1) * 4 + i]? = _
    have e : x.cells.length = 4 := rfl
    rw [List.getElem?_append_right (by rw [e]; omega), e, show (k + 1) * 4 + i - 4 = k * 4 + i by omega]
    simpa using rocells_get hk' hi
theorem Rd.road {w : World} {A : Option Addr} {l : List RoR} (h : Rd w A (rocells l)) {k : Nat} (hk : k < l.length) : ∃ ad, A = some ad ∧ ad.block < w.heap.size ∧
    w.cell? (ad.add (k * 4)) = some (.int .i64 l[k].a) ∧ w.cell? ⟨(ad.add (k * 4)).block, (ad.add (k * 4)).off + 1, none⟩ = some (.int .i64 l[k].b) ∧
    w.cell? ⟨(ad.add (k * 4)).block, (ad.add (k * 4)).off + 2, none⟩ = some (.slice l[k].A l[k].n l[k].c) ∧ w.cell? ⟨(ad.add (k * 4)).block, (ad.add (k * 4)).off + 3, none⟩ = some (.float .f32 l[k].p) := by
  obtain ⟨ad, rfl, hb, hc⟩ := h (by rintro e; have := rocells_length l; rw [e] at this; simp at this; omega)
  refine ⟨ad, rfl, hb, hc _ _ (rocells_get (i := 0) hk (by omega)), ?_, ?_, ?_⟩
  all_goals
    rw [add_off _ _ (by omega)]
    exact hc _ _ (rocells_get hk (by omega))
/-- the error of a road -/
def roadE (many : Int) (r : RoR) : Int := if r.a < 0 ∨ many ≤ r.a ∨ r.b < 0 ∨ many ≤ r.b then 11 else if r.a = r.b then 14 else if finB r.p = false then 2 else if lt r.p 0 = true then 3 else 0
def roadsI (many : Int) : List RoR → Int
  | [] => 0
  | r :: t => if roadE many r ≠ 0 then roadE many r else roadsI many t
def roadsE (many : Int) (l : List RoR) : Int := if many < 1 ∨ 24 < many then 3 else if 1000 < l.length then 4 else roadsI many l
theorem roadsI_at {many : Int} {l : List RoR} {k : Nat} (hk : k < l.length) : roadsI many (l.drop k) = if roadE many l[k] ≠ 0 then roadE many l[k] else roadsI many (l.drop (k + 1)) := by
  rw [List.drop_eq_getElem_cons hk]
  rfl
theorem nxt_c {k n : Nat} (h : k < n) : n - (intOf (.int .i64 ((k : Int) + 1))).toNat < n - (intOf (.int .i64 (k : Int))).toNat := by
  simp [intOf]
  omega
def finE (l : List Nat) : Int := if l.any (fun b => !finB b) then 2 else 0
set_option maxHeartbeats 800000 in
theorem Finite_any (A : Option Addr) (n c : Nat) (l : List Nat) (w : World) (hn : l.length = n) (hr : Rd w A (flt l)) (hb : n ≤ 140737488351232) :
    Calls Try.prog 114 #[.slice A n c] w fun e w' => e = .returned (.int .i64 (finE l)) ∧ w' = w := by
  have Hn := hidA hn
  clear hn
  go_enter Try.func114, Try.ntmps114
  go_upto_region 2 with fail
  go_loopw [7] (fun s7 wr => ∃ k : Nat, k ≤ n ∧ s7 = .int .i64 k ∧ AllTo finB l k ∧ wr = w) (fun s7 _ => n - (intOf s7).toNat)
  case atStart => exact ⟨0, Nat.zero_le _, rfl, AllTo.zero _ _, rfl⟩
  case round =>
    obtain ⟨k, hk, rfl, hf, hwr⟩ := hrel
    subst hwr
    by_cases hlt : k < n
    · have Hk := hidA hlt
      have hkl : k < l.length := by have := Hn.out; omega
      obtain ⟨ad, rfl, hbk, hc⟩ := hr.at (k := k) (by simpa using hkl)
      have hck := hc k _ (flt_get hkl)
      have i0 : (0 : Int) ≤ k := by omega
      have i1 : (k : Int) < n := by omega
      clear hc
      cases hfin : finB l[k]
      · have H2 : Hid (finE l = 2) := by
          show _ = _
          unfold finE
          rw [if_pos (List.any_eq_true.2 ⟨l[k], List.getElem_mem hkl, by rw [hfin]; rfl⟩)]
        clear hf
        go_wp2_with (go_at_call 101; refine (finite_any _ _).mono ?_; rintro e w' ⟨rfl, hw'⟩; subst hw')
        go_ret
        exact ⟨ret_i H2.out.symm, rfl⟩
      · have hs := hidA (hf.step hkl hfin)
        clear hf
        go_wp2_with (go_at_call 101; refine (finite_any _ _).mono ?_; rintro e w' ⟨rfl, hw'⟩; subst hw')
        go_roundw
        case rel => exact ⟨k + 1, Hk.out, (by first | rfl | go_num), hs.out, (by first | rfl | trivial)⟩
        case measure => exact nxt_c Hk.out
    · have ha := hf.all (by have := Hn.out; omega)
      have H2 : Hid (finE l = 0) := by
        show _ = _
        unfold finE
        rw [if_neg]
        intro h
        obtain ⟨b, hb, h2⟩ := List.any_eq_true.1 h
        rw [ha b hb] at h2
        cases h2
      clear hf ha
      go_wp2
      go_ret
      exact ⟨ret_i H2.out.symm, (by first | rfl | trivial)⟩
theorem finE_one (b : Nat) : finE [b] = if finB b = true then 0 else 2 := by
  unfold finE
  cases h : finB b <;> simp [h]
set_option maxRecDepth 100000 in
set_option maxHeartbeats 3200000 in
theorem checkRoads_any (many : Int) (A : Option Addr) (n c : Nat) (l : List RoR) (w : World) (hn : l.length = n) (hV : Rd w A (rocells l)) :
    Calls Try.prog 82 #[.int .i64 many, .slice A n c] w fun e w' => e = .returned (.int .i64 (roadsE many l)) ∧ Ext w w' := by
  have Hn := hidA hn
  have hE : Hid (roadsE many l = if many < 1 ∨ 24 < many then 3 else if 1000 < n then 4 else roadsI many l) := by show _ = _; unfold roadsE; rw [hn]
  generalize roadsE many l = E at *
  have HV := hidA hV
  clear hn hV
  go_enter Try.func82, Try.ntmps82
  by_cases h1 : many < 1
  · have HE2 := hidA (hE.out.trans (if_pos (.inl h1)))
    clear hE
    go_wp2
    go_ret
    exact ⟨ret_i HE2.out.symm, Ext.refl _⟩
  · by_cases h24 : 24 < many
    · have HE2 := hidA (hE.out.trans (if_pos (.inr h24)))
      clear hE
      go_wp2
      go_ret
      exact ⟨ret_i HE2.out.symm, Ext.refl _⟩
    · have HE2 := hidA (hE.out.trans (if_neg (by omega)))
      clear hE
      by_cases hn1 : 1000 < n
      · have HE3 := hidA (HE2.out.trans (if_pos hn1))
        have hn1' : (1000 : Int) < n := by omega
        clear HE2
        go_wp2
        go_ret
        exact ⟨ret_i HE3.out.symm, Ext.refl _⟩
      · have HE3 := hidA (HE2.out.trans (if_neg hn1))
        have hn1' : ¬ (1000 : Int) < n := by omega
        have hn2 := hidA (show n ≤ 1000 by omega)
        clear HE2 hn1
        go_upto_region 6 with fail
        clear hn1' h24 h1
        go_loopw [19] (fun s19 wr => ∃ k : Nat, k ≤ n ∧ s19 = .int .i64 k ∧ E = roadsI many (l.drop k) ∧ Ext w wr) (fun s19 _ => n - (intOf s19).toNat)
        case atStart => exact ⟨0, Nat.zero_le _, rfl, HE3.out, Ext.refl _⟩
        case round =>
          obtain ⟨k, hk, rfl, he, hx⟩ := hrel
          by_cases hkn : k < n
          · have Hk := hidA hkn
            have hkl : k < l.length := by have := Hn.out; omega
            obtain ⟨ad, rfl, hbk, d0, d1, d2, d3⟩ := (HV.out.ext hx).road hkl
            have he2 := he.trans (roadsI_at hkl)
            obtain ⟨r, hr⟩ : ∃ r, r = l[k] := ⟨_, rfl⟩
            rw [← hr] at d0 d1 d2 d3 he2
            obtain ⟨a, b, wA, wn, wc, p⟩ := r
            dsimp only at d0 d1 d2 d3
            have i0 : (0 : Int) ≤ k := by omega
            have i1 : (k : Int) < n := by omega
            have i2 : (k : Int) ≤ 1000 := by have := hn2.out; omega
            have HE4 := hidA he2
            clear he he2 hr hbk hk hkn
            go_upto_region 8 with fail
            have kR : Bk (wr.alloc (.cells #[.int .i64 a, .int .i64 b, .slice wA wn wc, .float .f32 p] 87)) wr.heap.size 87 #[.int .i64 a, .int .i64 b, .slice wA wn wc, .float .f32 p] := Bk.new' rfl
            have hx1 := hx.alloc (.cells #[.int .i64 a, .int .i64 b, .slice wA wn wc, .float .f32 p] 87)
            clear d0 d1 d2 d3 hx
            generalize wr.alloc (.cells #[.int .i64 a, .int .i64 b, .slice wA wn wc, .float .f32 p] 87) = w1 at *
            generalize wr.heap.size = ha at *
            have r0 := kR.cell 0
            have r1 := kR.cell 1
            have r3 := kR.cell 3
            by_cases hp : a < 0 ∨ many ≤ a ∨ b < 0 ∨ many ≤ b
            · have HE5 : Hid (E = 11) := by
                show _ = _
                rw [HE4.out]
                unfold roadE
                dsimp only
                rw [if_pos hp, if_pos (by decide)]
              have Hx := hidA hx1
              clear HE4 hx1 kR r3
              have hp' : (a < 0) ∨ (¬ a < 0 ∧ many ≤ a) ∨ (¬ a < 0 ∧ ¬ many ≤ a ∧ b < 0) ∨ (¬ a < 0 ∧ ¬ many ≤ a ∧ ¬ b < 0 ∧ many ≤ b) := by omega
              clear hp
              rcases hp' with q1 | ⟨q1, q2⟩ | ⟨q1, q2, q3⟩ | ⟨q1, q2, q3, q4⟩
              all_goals
                go_wp2
                go_ret
                exact ⟨ret_i HE5.out.symm, Hx.out⟩
            · have q1 : ¬ a < 0 := fun h => hp (.inl h)
              have q2 : ¬ many ≤ a := fun h => hp (.inr (.inl h))
              have q3 : ¬ b < 0 := fun h => hp (.inr (.inr (.inl h)))
              have q4 : ¬ many ≤ b := fun h => hp (.inr (.inr (.inr h)))
              by_cases hab : a = b
              · have HE5 : Hid (E = 14) := by
                  show _ = _
                  rw [HE4.out]
                  unfold roadE
                  dsimp only
                  rw [if_neg hp, if_pos hab, if_pos (by decide)]
                have Hx := hidA hx1
                clear HE4 hx1 kR r3 hp
                go_wp2
                go_ret
                exact ⟨ret_i HE5.out.symm, Hx.out⟩
              · have HE6 : Hid (E = (if (if finB p = false then (2 : Int) else if lt p 0 = true then 3 else 0) ≠ 0 then (if finB p = false then 2 else if lt p 0 = true then 3 else 0) else roadsI many (l.drop (k + 1)))) := by
                  show _ = _
                  rw [HE4.out]
                  unfold roadE
                  dsimp only
                  rw [if_neg hp, if_neg hab]
                clear HE4 hp
                go_upto_region 12 with fail
                clear r0 r1 q1 q2 q3 q4 hab
                have HFi := fun (g : Nat) (w' : World) (h : Bk w' g 27 #[.float .f32 p]) => hidA (Finite_any (some ⟨g, 0, none⟩) 1 1 [p] w' rfl (fun _ => ⟨_, rfl, h.lt, fun j u hu => by rw [lit_add, h.cell]; simpa [flt] using hu⟩) (by omega))
                rw [finE_one] at HFi
                cases hf : finB p
                · rw [hf] at HFi HE6
                  have HE7 : Hid (E = 2) := by show _ = _; rw [HE6.out]; simp
                  clear HE6
                  simp only [Bool.false_eq_true, if_false] at HFi
                  go_wp2_with (go_at_call 114; refine ((HFi _ _ (Bk.new' rfl)).out).mono ?_; rintro e w2 ⟨rfl, hw2⟩; subst hw2)
                  go_ret
                  exact ⟨ret_i HE7.out.symm, hx1.alloc _⟩
                · rw [hf] at HFi HE6
                  simp only [if_true] at HFi
                  cases hl : lt p 0
                  · have hl' : (FloatKind.f32.format.order p 0 == some .lt) = false := hl
                    have HE7 : Hid (E = roadsI many (l.drop (k + 1))) := by show _ = _; rw [HE6.out]; simp [hl]
                    clear HE6 hl
                    go_upto_region 15 with (go_at_call 114; refine ((HFi _ _ (Bk.new' rfl)).out).mono ?_; rintro e w2 ⟨rfl, hw2⟩; subst hw2)
                    have r3' := (kR.alloc (.cells #[.float .f32 p] 27)).cell 3
                    have Hx2 := hidA (hx1.alloc (.cells #[.float .f32 p] 27))
                    clear r3 kR hx1 HFi
                    go_wp2
                    go_roundw
                    case rel => exact ⟨k + 1, Hk.out, (by first | rfl | go_num), HE7.out, Hx2.out⟩
                    case measure => exact nxt_c Hk.out
                  · have hl' : (FloatKind.f32.format.order p 0 == some .lt) = true := hl
                    have HE7 : Hid (E = 3) := by show _ = _; rw [HE6.out]; simp [hl]
                    clear HE6 hl
                    go_upto_region 15 with (go_at_call 114; refine ((HFi _ _ (Bk.new' rfl)).out).mono ?_; rintro e w2 ⟨rfl, hw2⟩; subst hw2)
                    have r3' := (kR.alloc (.cells #[.float .f32 p] 27)).cell 3
                    have Hx2 := hidA (hx1.alloc (.cells #[.float .f32 p] 27))
                    clear r3 kR hx1 HFi
                    go_wp2
                    go_ret
                    exact ⟨ret_i HE7.out.symm, Hx2.out⟩
          · have HE4 : Hid (E = 0) := by
              show _ = _
              rw [he, List.drop_of_length_le (by have := Hn.out; omega)]
              rfl
            obtain rfl : k = n := by omega
            clear he hk hkn
            go_wp2
            go_ret
            exact ⟨ret_i HE4.out.symm, hx⟩
end Go.Proofs.Ytpgdinpckolfpaa
