/- The law BedsMatch: it returns true for every field, way, kind and grade. -/
import Derived.Test.YtpgdinpckolfpaaBaseC
import Derived.BigQuiet
import Derived.Test.YtpgdinpckolfpaaPlaces
import Derived.Test.YtpgdinpckolfpaaBdAE
import Derived.Test.YtpgdinpckolfpaaRdU
namespace Go.Proofs.Ytpgdinpckolfpaa
open Go.RowKit
attribute [local go_sem ↓] Go.wp_at_zero Go.wp_at_succ

set_option maxHeartbeats 1600000 in
theorem eqFlo_same (A B : Option Addr) (n c d : Nat) (a b : List Nat) (w : World) (hn : a.length = n) (hn2 : b.length = n) (ha : Rd w A (flt a)) (hb : Rd w B (flt b)) (hnb : n ≤ 4000000) (he : ∀ k (h1 : k < a.length) (h2 : k < b.length), (FloatKind.f32.format.order a[k] b[k] == some .eq) = true) :
    Calls Try.prog 46 #[.slice A n c, .slice B n d] w fun e w' => e = .returned (.bool true) ∧ Ext w w' := by
  have Hn := hidA hn
  have Hn2 := hidA hn2
  have He := hidA he
  clear hn hn2 he
  go_enter Try.func46, Try.ntmps46
  go_wp2
  go_loopw [13] (fun i wr => ∃ k m : Nat, k ≤ n ∧ i = .int .i64 k ∧ wr = w.drewN m) (fun i _ => n - (intOf i).toNat)
  case atStart => exact ⟨0, 0, Nat.zero_le _, rfl, rfl⟩
  case round =>
    obtain ⟨k, m, hk, rfl, rfl⟩ := hrel
    by_cases hlt : k < n
    · have hkl : k < a.length := by have := Hn.out; omega
      have hkl2 : k < b.length := by have := Hn2.out; omega
      obtain ⟨ad, rfl, hbk, hc⟩ := ha.at (k := k) (by simpa [flt] using hkl)
      obtain ⟨ad2, rfl, hbk2, hc2⟩ := hb.at (k := k) (by simpa [flt] using hkl2)
      have e0 := hc k _ (flt_get hkl)
      have e2 := hc2 k _ (flt_get hkl2)
      have C1 : FloatKind.f32.format.order a[k] b[k] = some .eq := by have := He.out k hkl hkl2; simpa using this
      generalize a[k] = va at *
      generalize b[k] = vb at *
      have k0 : (0 : Int) ≤ k := by omega
      have k1 : (k : Int) < n := by omega
      clear ha hb hc hc2
      go_wp2
      go_quiet (fail)
      go_wp2
      go_roundw
      case rel => exact ⟨k + 1, _, by omega, by go_num, rfl⟩
      case measure => simp [intOf]; omega
    · obtain rfl : k = n := by omega
      go_wp2
      go_ret
      exact ⟨rfl, (by repeat (first | exact Ext.refl _ | assumption | refine Ext.setCell ?_ (by first | (simp; done) | (simp; omega)) _ | refine Ext.drewN ?_ _ | refine Ext.alloc ?_ _ | refine Ext.drew ?_ | refine Ext.trans ?_ (by assumption)))⟩

end Go.Proofs.Ytpgdinpckolfpaa

namespace Go.Proofs.Ytpgdinpckolfpaa
open Go.RowKit

theorem f32bits' (a : Nat) (w : World) : (callFunc 68 #[.float .f32 a]).run Try.prog w = .ok (.value (.int .u32 a)) w := by kernel_rfl

set_option maxHeartbeats 400000 in
theorem bits1_same (a : Nat) (w : World) : Calls Try.prog 76 #[.float .f32 a, .float .f32 a] w fun e w' => e = .returned (.bool true) ∧ w = w' := by
  have hf := f32bits' a
  go_enter Try.func76, Try.ntmps76
  go_wp2
  go_ret
  exact ⟨ret_b (by simp), rfl⟩

set_option maxHeartbeats 800000 in
theorem eqFunc_same (A B : Option Addr) (n c d : Nat) (l : List Nat) (w : World) (hn : l.length = n) (ha : Rd w A (flt l)) (hb : Rd w B (flt l)) (hnb : n ≤ 4000000000) :
    Calls Try.prog 75 #[.slice A n c, .slice B n d, .func (.func 76) #[] #[]] w fun e w' => e = .returned (.bool true) ∧ w = w' := by
  have Hn := hidA hn
  clear hn
  go_enter Try.func75, Try.ntmps75
  go_wp2
  go_loop [17] (fun i => ∃ k : Nat, k ≤ n ∧ i = .int .i64 k) (fun i => n - (intOf i).toNat)
  case atStart => exact ⟨0, Nat.zero_le _, rfl⟩
  case round =>
    obtain ⟨k, hk, rfl⟩ := hrel
    by_cases hlt : k < n
    · have hkl : k < l.length := by have := Hn.out; omega
      obtain ⟨ad, rfl, hbk, hc⟩ := ha.at (k := k) (by simpa using hkl)
      obtain ⟨ad2, rfl, hbk2, hc2⟩ := hb.at (k := k) (by simpa using hkl)
      have e0 := hc k _ (flt_get hkl)
      have e1 := hc2 k _ (flt_get hkl)
      clear hc hc2 ha hb
      go_wp2_with (go_at_call 76; refine (bits1_same _ _).mono ?_; rintro e w' ⟨rfl, rfl⟩)
      go_round
      case rel => exact ⟨k + 1, by omega, by go_num⟩
      case measure => simp [intOf]; omega
    · obtain rfl : k = n := by omega
      go_wp2
      go_ret
      exact ⟨rfl, rfl⟩

theorem bits_same (A B : Option Addr) (n c d : Nat) (l : List Nat) (w : World) (hn : l.length = n) (ha : Rd w A (flt l)) (hb : Rd w B (flt l)) (hnb : n ≤ 4000000000) :
    Calls Try.prog 30 #[.slice A n c, .slice B n d] w fun e w' => e = .returned (.bool true) ∧ w = w' := by
  go_enter Try.func30, Try.ntmps30
  go_wp2_with fail
  refine (eqFunc_same A B n c d l _ hn ha hb hnb).mono ?_
  rintro e w' ⟨rfl, rfl⟩
  go_wp2
  go_ret
  exact ⟨rfl, rfl⟩

end Go.Proofs.Ytpgdinpckolfpaa

namespace Go.Proofs.Ytpgdinpckolfpaa
open Go.RowKit
attribute [local go_sem ↓] Go.wp_at_zero Go.wp_at_succ
attribute [local go_sem] run_store_float

def whenI (b : Bool) (k : Int) : Int := if b then k else 0
def withI (n lo hi : Int) : Bool := decide (lo ≤ n) && decide (n ≤ hi)
theorem withI_false {n lo hi : Int} : withI n lo hi = false ↔ n < lo ∨ hi < n := by
  unfold withI
  rw [Bool.and_eq_false_iff]
  simp
theorem bedE_first (how : Int) (most : Nat) (bb : Bool) (hb : bb = true ↔ lt most 0 = true ∨ gt most 1149239296 = true) : firstE [whenI (!withI how 1 3) 1, numE [most], whenI bb 3] = bedE how most := by
  unfold bedE
  by_cases h : how < 1 ∨ 3 < how
  · rw [withI_false.2 h, if_pos h]
    rfl
  · have e : withI how 1 3 = true := by
      cases e : withI how 1 3
      · exact absurd (withI_false.1 e) h
      · rfl
    rw [e, if_neg h]
    by_cases h2 : numE [most] = 0
    · rw [if_neg (show ¬ numE [most] ≠ 0 by simpa using h2), h2]
      by_cases h3 : lt most 0 = true ∨ gt most 1149239296 = true
      · rw [if_pos h3, hb.2 h3]
        rfl
      · rw [if_neg h3]
        cases bb
        · rfl
        · exact absurd (hb.1 rfl) h3
    · rw [if_pos h2]
      show firstE [0, numE [most], whenI bb 3] = _
      unfold firstE
      rw [if_pos rfl]
      unfold firstE
      rw [if_neg h2]
theorem numE_fin {l : List Nat} (h : ∀ b, b ∈ l → finB b = true) : numE l = 0 ∨ numE l = 3 := by
  unfold numE
  rw [if_neg]
  · split
    · exact .inr rfl
    · exact .inl rfl
  · intro h2
    obtain ⟨b, hb, h3⟩ := List.any_eq_true.1 h2
    rw [h b hb] at h3
    cases h3
theorem ord_eq_self {b : Nat} (h : finB b = true) : (FloatKind.f32.format.order b b == some .eq) = true := by
  rw [ord_def, ord_self (fin_not_nan h)]
  rfl
theorem first2B (a b : Int) : firstE [a, b] = if a ≠ 0 then a else b := by
  by_cases h : a = 0
  · subst h
    unfold firstE
    rw [if_pos rfl, if_neg (show ¬ (0 : Int) ≠ 0 by decide)]
    unfold firstE
    by_cases h2 : b = 0
    · rw [if_pos h2, h2]; rfl
    · rw [if_neg h2]
  · rw [if_pos h]
    unfold firstE
    rw [if_neg h]
/-- both programs find one error -/
theorem bed_want (X Y W H : Int) (lf : List Nat) (l : List (Int × Int)) : firstE [fieldE X Y W H lf, wayE (outG X Y W H) l] = if fieldE X Y W H lf ≠ 0 then fieldE X Y W H lf else wayE (outP X Y W H) l := by
  rw [first2B]
  by_cases h : fieldE X Y W H lf = 0
  · rw [if_neg (by simpa using h), if_neg (by simpa using h)]
    obtain ⟨f1, _, _⟩ := field_zero h
    obtain ⟨Wn, Hn, rfl, rfl, hg⟩ := Reg.of_zero f1
    rw [outG_P hg]
  · rw [if_pos h, if_pos h]
/-- what a right kind and grade tell -/
theorem bedE_zero {how : Int} {most : Nat} (h : bedE how most = 0) : (how = 1 ∨ how = 2 ∨ how = 3) ∧ numE [most] = 0 ∧ lt most 0 = false ∧ gt most 1149239296 = false ∧ Bd 10 most ∧ 0 ≤ valI most := by
  unfold bedE at h
  split at h
  · cases h
  · rename_i h1
    split at h
    · rename_i h2
      exact absurd h h2
    · rename_i h2
      have h2' : numE [most] = 0 := by simpa using h2
      split at h
      · cases h
      · rename_i h3
        have a : lt most 0 = false := by simpa using fun e => h3 (.inl e)
        have b : gt most 1149239296 = false := by simpa using fun e => h3 (.inr e)
        have hF : Fin most := bd_Fin (hgt_bd ((numE_zero h2').2 most (by simp))) (by omega)
        obtain ⟨o1, o2⟩ := outB_no hF (by unfold outB; rw [a, b]; rfl)
        exact ⟨by omega, h2', a, b, o1, o2.1⟩
theorem Bed_good (X Y : Int) (Wn Hn : Nat) (A : Option Addr) (N c : Nat) (lf : List Nat) (B : Option Addr) (n d : Nat) (l : List (Int × Int)) (how : Int) (most : Nat) (w : World) (hr : Reg X Y Wn Hn) (hN : N = Wn * Hn) (hlf : lf.length = N) (hh : ∀ j, j < N → Bd 20 (lf.getD j 0)) (hV : Rd w A (flt lf)) (hn : l.length = n) (hP : Rd w B (ptv l)) (hnd : n ≤ d) (h0 : fieldE X Y Wn Hn lf = 0) (hW : wayE (outP X Y Wn Hn) l = 0) (hE : bedE how most = 0) :
    Calls Try.prog 47 #[.agg #[.int .i64 X, .int .i64 Y, .int .i64 (Wn : Int), .int .i64 (Hn : Int), .slice A N c], .slice B n d, .int .i64 how, .float .f32 most] w fun e w' => BedPost w n ((List.range n).map (bedF how (drpX most l) (hgtY lf X Y Wn l) (n - 1))) e w' := by
  obtain ⟨hk, h3, hl, hg, hM, hM0⟩ := bedE_zero hE
  rcases hk with rfl | rfl | rfl
  · exact Bed_good1 X Y Wn Hn A N c lf B n d l most w hr hN hlf hh hV hn hP hnd h0 hW h3 hl hg hM hM0
  · exact Bed_good2 X Y Wn Hn A N c lf B n d l most w hr hN hlf hh hV hn hP hnd h0 hW h3 hl hg hM hM0
  · exact Bed_good3 X Y Wn Hn A N c lf B n d l most w hr hN hlf hh hV hn hP hnd h0 hW h3 hl hg hM hM0
theorem BedOf_good (X Y : Int) (Wn Hn : Nat) (A : Option Addr) (N c : Nat) (lf : List Nat) (B : Option Addr) (n d : Nat) (l : List (Int × Int)) (how : Int) (most : Nat) (w : World) (hr : Reg X Y Wn Hn) (hN : N = Wn * Hn) (hlf : lf.length = N) (hh : ∀ j, j < N → Bd 20 (lf.getD j 0)) (hV : Rd w A (flt lf)) (hn : l.length = n) (hP : Rd w B (ptv l)) (hW : wayE (outP X Y Wn Hn) l = 0) (hE : bedE how most = 0) :
    Calls Try.prog 53 #[.agg #[.int .i64 X, .int .i64 Y, .int .i64 (Wn : Int), .int .i64 (Hn : Int), .slice A N c], .slice B n d, .int .i64 how, .float .f32 most] w fun e w' => ∃ g cap, e = .returned (.slice (some ⟨g, 0, none⟩) n cap) ∧ w.heap.size ≤ g ∧ n ≤ cap ∧ FX w g cap n (bedF how (drpX most l) (hgtY lf X Y Wn l) (n - 1)) w' := by
  obtain ⟨hk, h3, hl, hg, hM, hM0⟩ := bedE_zero hE
  have hok := wayOk hW
  rcases hk with rfl | rfl | rfl
  · exact BedOf_true X Y Wn Hn A N c lf B n d l most w hr hN hlf hh hV hn hP hok hM hM0
  · exact BedOf_false X Y Wn Hn A N c lf B n d l most w hr hN hlf hh hV hn hP hok hM hM0
  · exact BedOf_mean X Y Wn Hn A N c lf B n d l most w hr hN hlf hh hV hn hP hok hM hM0
set_option maxRecDepth 100000 in
set_option maxHeartbeats 6400000 in
theorem beds_bad (X Y W H : Int) (A : Option Addr) (N c : Nat) (lf : List Nat) (B : Option Addr) (q d : Nat) (l : List (Int × Int)) (how : Int) (most : Nat) (w : World) (hn : lf.length = N) (hV : Rd w A (flt lf)) (hb : N ≤ 140737488351232) (hq : l.length = q) (hP : Rd w B (ptv l)) (hqb : q ≤ 140737488351232) (hE : (if fieldE X Y W H lf ≠ 0 then fieldE X Y W H lf else wayE (outP X Y W H) l) ≠ 0) :
    Calls Try.prog 11 #[.agg #[.int .i64 X, .int .i64 Y, .int .i64 W, .int .i64 H, .slice A N c], .slice B q d, .int .i64 how, .float .f32 most] w fun e w' => e = .returned (.bool true) ∧ Ext w w' := by
  have HBd := fun (w' : World) (h : Ext w w') => hidA (Bed_bad X Y W H A N c lf B q d l how most w' hn (hV.ext h) hb hq (hP.ext h) hE)
  have HGr := fun (w' : World) (h : Ext w w') => hidA (Grades_bad X Y W H A N c lf B q d l w' hn (hV.ext h) hb hq (hP.ext h) hE)
  have HFi := fun (w' : World) (h : Ext w w') => hidA (fieldError_any X Y W H A N c lf w' hn (hV.ext h) hb)
  have HWe := fun (hf : Nat) (w' : World) (h : Ext w w') (kF : Bk w' hf 26 #[.int .i64 X, .int .i64 Y, .int .i64 W, .int .i64 H, .slice A N c]) => hidA (WayErrorG_any X Y W H A N c hf B q d l w' kF hq (hP.ext h) hqb)
  have HL := fun (w : World) => hidA (leads_any w)
  have HS2 : ∀ (B : Option Addr) (w : World), Rd w B [.int .i64 (fieldE X Y W H lf), .int .i64 (wayE (outG X Y W H) l)] → Hid (Calls Try.prog 17 #[.slice B 2 2] w fun e w' => e = .returned (.int .i64 (if fieldE X Y W H lf ≠ 0 then fieldE X Y W H lf else wayE (outP X Y W H) l)) ∧ w = w') := fun B w h => by
    have h9 := first_any B 2 2 [fieldE X Y W H lf, wayE (outG X Y W H) l] w rfl h (by omega)
    rw [bed_want] at h9
    exact hidA h9
  generalize (if fieldE X Y W H lf ≠ 0 then fieldE X Y W H lf else wayE (outP X Y W H) l) = E at *
  generalize fieldE X Y W H lf = fe at *
  generalize wayE (outG X Y W H) l = we at *
  have hne : (E != 0) = true := by simpa using hE
  clear hn hV hb hq hP hqb hE
  go_enter Try.func11, Try.ntmps11
  go_upto_region 1 with fail
  have kF : Bk (w.alloc (.cells #[.int .i64 X, .int .i64 Y, .int .i64 W, .int .i64 H, .slice A N c] 26)) w.heap.size 26 #[.int .i64 X, .int .i64 Y, .int .i64 W, .int .i64 H, .slice A N c] := Bk.new' rfl
  have hx0 := (Ext.refl w).alloc (.cells #[.int .i64 X, .int .i64 Y, .int .i64 W, .int .i64 H, .slice A N c] 26)
  generalize w.alloc (.cells #[.int .i64 X, .int .i64 Y, .int .i64 W, .int .i64 H, .slice A N c] 26) = w0 at *
  generalize w.heap.size = hf at *
  have f0 := kF.cell 0
  have f1 := kF.cell 1
  have f2 := kF.cell 2
  have f3 := kF.cell 3
  have f4 := kF.cell 4
  go_wp2_with (first | (go_at_call 47; refine ((HBd _ hx0).out).mono ?_; rintro e w1 ⟨rfl, hx1⟩; have kF1 := kF.ext hx1; have x0 := kF1.cell 0; have x1 := kF1.cell 1; have x2 := kF1.cell 2; have x3 := kF1.cell 3; have x4 := kF1.cell 4) | (go_at_call 48; refine ((HGr _ (hx0.trans hx1)).out).mono ?_; rintro e w2 ⟨rfl, hx2⟩; have kF2 := kF1.ext hx2; have y0 := kF2.cell 0; have y1 := kF2.cell 1; have y2 := kF2.cell 2; have y3 := kF2.cell 3; have y4 := kF2.cell 4) | (go_at_call 49; refine ((HFi _ ((hx0.trans hx1).trans hx2)).out).mono ?_; rintro e w3 ⟨rfl, hx3⟩; have kF3 := kF2.ext hx3) | (go_at_call 39; refine ((HWe _ _ (((hx0.trans hx1).trans hx2).trans hx3) kF3).out).mono ?_; rintro e w5 ⟨rfl, hx5⟩) | (go_at_call 17; refine ((HS2 _ _ (Rd.new (by first | rfl | simp) (by first | rfl | simp))).out).mono ?_; rintro e w8 ⟨rfl, hw8⟩; subst hw8) | (go_at_call 15; refine ((HL _).out).mono ?_; rintro e w4 ⟨rfl, hx4⟩))
  go_ret
  exact ⟨by first | rfl | simp, (by repeat (first | exact Ext.refl _ | assumption | refine Ext.setCell ?_ (by first | (simp; done) | (simp; omega)) _ | refine Ext.drewN ?_ _ | refine Ext.alloc ?_ _ | refine Ext.drew ?_ | refine Ext.trans ?_ (by assumption)))⟩
set_option maxRecDepth 100000 in
set_option maxHeartbeats 12800000 in
theorem beds_err (X Y : Int) (Wn Hn : Nat) (A : Option Addr) (N c : Nat) (lf : List Nat) (B : Option Addr) (n d : Nat) (l : List (Int × Int)) (how : Int) (most : Nat) (w : World) (hr : Reg X Y Wn Hn) (hN : N = Wn * Hn) (hlf : lf.length = N) (hh : ∀ j, j < N → Bd 20 (lf.getD j 0)) (hV : Rd w A (flt lf)) (hn : l.length = n) (hP : Rd w B (ptv l)) (hnd : n ≤ d) (h0 : fieldE X Y Wn Hn lf = 0) (hW : wayE (outP X Y Wn Hn) l = 0) (hE : bedE how most ≠ 0) :
    Calls Try.prog 11 #[.agg #[.int .i64 X, .int .i64 Y, .int .i64 (Wn : Int), .int .i64 (Hn : Int), .slice A N c], .slice B n d, .int .i64 how, .float .f32 most] w fun e w' => e = .returned (.bool true) ∧ Ext w w' := by
  have hok := wayOk hW
  have hn6 : n ≤ 65536 := by have := hok.le; omega
  have hn1 : 1 ≤ n := by have := hok.pos; omega
  have hb : N ≤ 140737488351232 := by have := hr.n; omega
  have HBd := fun (w' : World) (h : Ext w w') => hidA (Bed_err X Y Wn Hn A N c lf B n d l most w' hr hN hlf (hV.ext h) hn (hP.ext h) h0 hW how hE)
  have HGr := fun (w' : World) (h : Ext w w') => hidA (Grades_ok X Y Wn Hn A N c lf B n d l w' hr hN hlf hh (hV.ext h) hn (hP.ext h) hnd h0 hW)
  have HFi := fun (w' : World) (h : Ext w w') => hidA (fieldError_any X Y Wn Hn A N c lf w' hlf (hV.ext h) hb)
  have HWe := fun (hf : Nat) (w' : World) (h : Ext w w') (kF : Bk w' hf 26 #[.int .i64 X, .int .i64 Y, .int .i64 (Wn : Int), .int .i64 (Hn : Int), .slice A N c]) => hidA (WayErrorF_any X Y Wn Hn A N c hf B n d l w' hr kF hn (hP.ext h) (by omega))
  rw [h0] at HFi
  rw [hW] at HWe
  have HL := fun (w : World) => hidA (leads_any w)
  have HS2 := fun (B : Option Addr) (w : World) (h : Rd w B [.int .i64 0, .int .i64 0]) => hidA (show Calls Try.prog 17 #[.slice B 2 2] w fun e w' => e = .returned (.int .i64 0) ∧ w = w' from first_any B 2 2 [0, 0] w rfl h (by omega))
  have HVa := fun (w' : World) (h : Ext w w') => hidA (Values_any X Y Wn Hn A N c lf B n d l w' hr hN hlf (hV.ext h) hn (hP.ext h) hok)
  have HLn := fun (w' : World) (h : Ext w w') => hidA (LengthsR_any (fun p hp => outP_bd hr hp) B n d l w' hn (hP.ext h) hok)
  have HAb := fun (b : Nat) (h : b < 4294967296) (w : World) => hidA (refAbs_any b w h)
  have Hbd := hidA (fun (i : Nat) (h : i < n) => show Bd 20 (hgtY lf X Y Wn l i) from hh _ (by rw [hN]; exact (kOf_in (outP_in (hok.ok i (by omega)))).1))
  have Hst := hidA (fun (i : Nat) (h : i + 1 < n) => hok.st (i + 1) (by omega) (by omega))
  have Hfin := hidA (show ∀ i, i ≤ n - 1 → ∀ x, x ∈ grL lf X Y Wn l i → finB x = true from fun i => by
    induction i with
    | zero => intro _ x hx; cases hx
    | succ i ih =>
      intro hi x hx
      rw [grL] at hx
      rcases List.mem_append.1 hx with h1 | h1
      · exact ih (by omega) x h1
      · rw [List.mem_singleton.1 h1]
        obtain ⟨_, _, m1, m2⟩ := hok.st (i + 1) (by omega) (by omega)
        obtain ⟨l1, _, l3⟩ := len_ok (d := (lpo l (i + 1)).1) m1 m2
        exact bd_finB (gr_ok (hh _ (by rw [hN]; exact (kOf_in (outP_in (hok.ok i (by omega)))).1)) (hh _ (by rw [hN]; exact (kOf_in (outP_in (hok.ok (i + 1) (by omega)))).1)) l1 l3).2.2.2.1 (by omega))
  have HWh : ∀ (b : Bool) (k : Int) (w : World), Hid (Calls Try.prog 19 #[.bool b, .int .i64 k] w fun e w' => e = .returned (.int .i64 (whenI b k)) ∧ w = w') := fun b k w => hidA (when_any b k w)
  have HWi : ∀ (a b c : Int) (w : World), Hid (Calls Try.prog 35 #[.int .i64 a, .int .i64 b, .int .i64 c] w fun e w' => e = .returned (.bool (withI a b c)) ∧ w = w') := fun a b c w => hidA (within_any a b c w)
  have HNe := fun (g : Nat) (w' : World) (h : Bk w' g 27 #[.float .f32 most]) => hidA (numberError_any (some ⟨g, 0, none⟩) 1 1 [most] w' rfl (fun _ => ⟨_, rfl, h.lt, fun j u hu => by rw [lit_add, h.cell]; simpa [flt] using hu⟩) (by omega))
  have HS3 : ∀ (bb : Bool) (B : Option Addr) (w : World), (bb = true ↔ lt most 0 = true ∨ gt most 1149239296 = true) → Rd w B [.int .i64 (whenI (!withI how 1 3) 1), .int .i64 (numE [most]), .int .i64 (whenI bb 3)] → Hid (Calls Try.prog 17 #[.slice B 3 3] w fun e w' => e = .returned (.int .i64 (bedE how most)) ∧ w = w') := fun bb B w hb h => by
    have h9 := first_any B 3 3 [whenI (!withI how 1 3) 1, numE [most], whenI bb 3] w rfl h (by omega)
    rw [bedE_first how most bb hb] at h9
    exact hidA h9
  obtain ⟨ti, hi0, hz0, hz1, hz2⟩ := info_parts infoFlo
  have hneE : (bedE how most != 0) = true := by simpa using hE
  generalize bedE how most = E at *
  clear hr hN hlf hh hV hn hP hnd h0 hW hok hb hE
  go_enter Try.func11, Try.ntmps11
  go_upto_region 1 with fail
  have kF : Bk (w.alloc (.cells #[.int .i64 X, .int .i64 Y, .int .i64 (Wn : Int), .int .i64 (Hn : Int), .slice A N c] 26)) w.heap.size 26 #[.int .i64 X, .int .i64 Y, .int .i64 (Wn : Int), .int .i64 (Hn : Int), .slice A N c] := Bk.new' rfl
  have hx0 := (Ext.refl w).alloc (.cells #[.int .i64 X, .int .i64 Y, .int .i64 (Wn : Int), .int .i64 (Hn : Int), .slice A N c] 26)
  generalize w.alloc (.cells #[.int .i64 X, .int .i64 Y, .int .i64 (Wn : Int), .int .i64 (Hn : Int), .slice A N c] 26) = w0 at *
  generalize w.heap.size = hf at *
  have f0 := kF.cell 0
  have f1 := kF.cell 1
  have f2 := kF.cell 2
  have f3 := kF.cell 3
  have f4 := kF.cell 4
  go_upto_region 4 with (first | (go_at_call 47; refine ((HBd _ hx0).out).mono ?_; rintro e w1 ⟨rfl, hx1⟩; have kF1 := kF.ext hx1; have x0 := kF1.cell 0; have x1 := kF1.cell 1; have x2 := kF1.cell 2; have x3 := kF1.cell 3; have x4 := kF1.cell 4) | (go_at_call 48; refine ((HGr _ (hx0.trans hx1)).out).mono ?_; rintro e w2 ⟨vg, eg, rfl, hx2, hg1, hg2, hg3⟩; have kF2 := kF1.ext hx2; have y0 := kF2.cell 0; have y1 := kF2.cell 1; have y2 := kF2.cell 2; have y3 := kF2.cell 3; have y4 := kF2.cell 4) | (go_at_call 49; refine ((HFi _ ((hx0.trans hx1).trans hx2)).out).mono ?_; rintro e w3 ⟨rfl, hx3⟩; have kF3 := kF2.ext hx3) | (go_at_call 39; refine ((HWe _ _ (((hx0.trans hx1).trans hx2).trans hx3) kF3).out).mono ?_; rintro e w5 ⟨rfl, hx5⟩) | (go_at_call 17; refine ((HS2 _ _ (Rd.new (by first | rfl | simp) (by first | rfl | simp))).out).mono ?_; rintro e w8 ⟨rfl, hw8⟩; subst hw8))
  have hxa := (((hx0.trans hx1).trans hx2).trans hx3).trans hx5
  have kF5 := (kF3.ext hx5).alloc (.cells #[.int .i64 0, .int .i64 0] 33)
  have hxb := hxa.alloc (.cells #[.int .i64 0, .int .i64 0] 33)
  have hx25 := ((hx3.trans hx5).alloc (.cells #[.int .i64 0, .int .i64 0] 33))
  have hx15 := hx2.trans hx25
  have Hg1 := hidA hg1
  have Hg2 := hidA hg2
  have Hg3 := hidA (fun h => (hg3 h).imp fun A2 h => h.imp fun cap h => And.intro h.1 (h.2.ext hx25))
  clear f0 f1 f2 f3 f4 x0 x1 x2 x3 x4 y0 y1 y2 y3 y4 kF kF1 kF2 kF3 hx0 hx1 hx2 hx3 hx5 hxa hx25 hx15 hg1 hg2 hg3 HBd HGr HFi HWe HS2
  generalize w5.alloc (.cells #[.int .i64 0, .int .i64 0] 33) = w5a at *
  go_upto_region 7 with (go_at_call 15; refine ((HL _).out).mono ?_; rintro e w4 ⟨rfl, hx4⟩)
  have kF6 := kF5.ext hx4
  have hxc := hxb.trans hx4
  have Hg4 := hidA (fun h => (Hg3.out h).imp fun A2 h => h.imp fun cap h => And.intro h.1 (h.2.ext hx4))
  clear Hg3 kF5 hxb
  have f0 := kF6.cell 0
  have f1 := kF6.cell 1
  have f2 := kF6.cell 2
  have f3 := kF6.cell 3
  have f4 := kF6.cell 4
  go_upto_region 8 with (go_at_call 50; refine ((HVa _ hxc).out).mono ?_; rintro e w7 ⟨vv, rfl, hOv, hx7⟩; obtain ⟨AV, capV, rfl, hRv⟩ := hOv.any; rw [vlL_length])
  have kF7 := kF6.ext hx7
  have hxd := hxc.trans hx7
  have h47 := hidA hx7
  clear f0 f1 f2 f3 f4 kF6 hOv HVa hxc hx7
  go_upto_region 9 with (go_at_call 51; refine ((HLn _ hxd).out).mono ?_; rintro e w6 ⟨vl, rfl, hOl, hx6⟩; obtain ⟨AL, capL, rfl, hRl⟩ := hOl.any; rw [lnL_length])
  have HRv := hidA (hRv.ext hx6)
  have HRl := hidA hRl
  have HkF := hidA (kF7.ext hx6)
  have Hxe := hidA (hxd.trans hx6)
  have Hx46 := hidA (h47.out.trans hx6)
  clear kF7 hOl hRl hRv HLn hxd hx6 h47 hx4
  obtain ⟨adV, rfl, _, _⟩ := HRv.out (by intro e; have h9 := congrArg List.length e; simp [flt, vlL_length] at h9; omega)
  go_loopw [14, 72] (fun s14 s72 wr => ∃ i : Nat, i ≤ n - 1 ∧ s72 = .int .i64 i ∧ OwnFl wr w6.heap.size s14 (grL lf X Y Wn l i) ∧ Ext w6 wr) (fun _ s72 _ => n - (intOf s72).toNat)
  case atStart => exact ⟨0, Nat.zero_le _, rfl, World.ownsRow_nil _ _ _ _, Ext.refl _⟩
  case round =>
    obtain ⟨i, hi, rfl, hO, hx⟩ := hrel
    by_cases hin : i < n - 1
    · have Hin := hidA hin
      obtain ⟨adL, rfl, _, hcv⟩ := (HRl.out.ext hx).at (k := i) (by simp [flt, lnL_length]; omega)
      have v1 := hcv i _ (flt_get (l := lnL l (n - 1)) (by rw [lnL_length]; omega))
      have hge := lnL_get l (n - 1) i hin
      have hst := Hst.out i (by omega)
      obtain ⟨_, hd8, m1, m2⟩ := hst
      have hln := len_ok (d := (lpo l (i + 1)).1) m1 m2
      have Hnx := hidA (show grL lf X Y Wn l (i + 1) = grL lf X Y Wn l i ++ [grF (hgtY lf X Y Wn l i) (hgtY lf X Y Wn l (i + 1)) (lenR (lpo l (i + 1)).1 (lpo l (i + 1)).2)] from rfl)
      have hev : (lnL l (n - 1))[i]'(by rw [lnL_length]; omega) = lenR (lpo l (i + 1)).1 (lpo l (i + 1)).2 := by
        rw [← hge]
        simp [List.getD_eq_getElem?_getD, show i < (lnL l (n - 1)).length by rw [lnL_length]; omega]
      rw [hev] at v1
      have hgr := gr_ok (a := hgtY lf X Y Wn l i) (b := hgtY lf X Y Wn l (i + 1)) (Hbd.out i (by omega)) (Hbd.out (i + 1) (by omega)) hln.1 hln.2.2
      have hab := bits_lt hgr.1 (.inr (.inl rfl))
      have hr1 := fun (w : World) => run_float_arith (P := Try.prog) w .sub 27 .f32 _ _ _ hgr.1
      have hr2 := fun (w : World) => run_float_arith (P := Try.prog) w .quo 27 .f32 _ _ _ hgr.2.2.1
      have KV : ∀ (w' : World) (j : Nat), j < n → Ext w6 w' → w'.cell? (adV.add j) = some (.float .f32 (hgtY lf X Y Wn l j)) := fun w' j hj h => by
        obtain ⟨ad', e, _, hcv⟩ := (HRv.out.ext h).at (k := j) (by simp [flt, vlL_length]; omega)
        injection e with e
        subst e
        have v9 := hcv j _ (flt_get (l := vlL lf X Y Wn l n) (by rw [vlL_length]; omega))
        rw [v9]
        have h8 := vlL_get lf X Y Wn l n j hj
        rw [← h8]
        simp [List.getD_eq_getElem?_getD, show j < (vlL lf X Y Wn l n).length by rw [vlL_length]; omega]
      have c0 : ∀ w', Ext w6 w' → w'.cell? (adV.add i) = some (.float .f32 (hgtY lf X Y Wn l i)) := fun w' h => KV w' i (by omega) h
      have c1 : ∀ w', Ext w6 w' → w'.cell? ⟨adV.block, adV.off + (i + 1), none⟩ = some (.float .f32 (hgtY lf X Y Wn l (i + 1))) := fun w' h => by rw [← add_pos adV (by omega : 0 < i + 1)]; exact KV w' (i + 1) (by omega) h
      generalize hgtY lf X Y Wn l i = h1 at *
      generalize hgtY lf X Y Wn l (i + 1) = h2 at *
      generalize lenR (lpo l (i + 1)).1 (lpo l (i + 1)).2 = ln at *
      obtain ⟨x, hxx⟩ : ∃ x, x = grF h1 h2 ln := ⟨_, rfl⟩
      rw [← hxx] at hr2 Hnx
      have Hlen := hidA (show (grL lf X Y Wn l i).length ≤ 65536 from by rw [grL_length]; omega)
      have i0 : (0 : Int) ≤ i := by omega
      have i1 : (i : Int) < ((n - 1 : Nat) : Int) := by omega
      have i2 : (i : Int) < n := by omega
      have i3 : (0 : Int) ≤ (i : Int) + 1 := by omega
      have i4 : (i : Int) + 1 < n := by omega
      have iw : IntKind.i64.wrap ((i : Int) + 1) = (i : Int) + 1 := IntWalk.i64_in _ ⟨by omega, by omega⟩
      have hxe : Ext wr (wr.drew.alloc (.cells #[.float .f32 x] 27)) := ((Ext.refl wr).drew).alloc _
      have hxa := hidA (hx.trans hxe)
      have hown2 := hidA (hO.ext hxe)
      have hnews : Hid (∀ j u, ([.float .f32 x] : List Value)[j]? = some u → (wr.drew.alloc (.cells #[.float .f32 x] 27)).cell? ((⟨wr.heap.size, 0, none⟩ : Addr).add j) = some u) := World.news_of_block (cs := #[.float .f32 x]) (t := 27) (fr := (0, 0)) (heap_alloc_new wr.drew _)
      have hone : Hid (∀ u ∈ ([.float .f32 x] : List Value), u.oneCell' = true) := by intro u hu; simp at hu; subst hu; rfl
      have hs9 := hidA (show w6.heap.size ≤ (wr.drew.alloc (.cells #[.float .f32 x] 27)).heap.size from hxa.out.size)
      have hsz1 := hidA (show (wr.drew.alloc (.cells #[.float .f32 x] 27)).heap.size = wr.heap.size + 1 from by rw [World.size_alloc]; rfl)
      have hmx2 := hidA (maxY Hlen.out).1
      have hmb := hidA (maxY Hlen.out).2
      clear hxx hcv hge hev hln hd8 m1 m2 hin hi hO hxe hgr KV
      go_upto_region 11 with fail
      clear v1
      refine wp_region_noPanic ?_
      refine wp_region_held_drew (S := fun w' => Ext w6 w') (by kernel_rfl) ?_ (fun hHeld => ?_)
      · (first | exact hx9 | (repeat (first | exact Ext.refl _ | assumption | refine Ext.setCell ?_ (by first | (simp; done) | (simp; omega)) _ | refine Ext.drewN ?_ _ | refine Ext.alloc ?_ _ | refine Ext.drew ?_ | refine Ext.trans ?_ (by assumption))))
      refine wpAnyH_take (i := 0) (oi := ?o1x0) (v := ?v1x0) ?hi1x0 (by kernel_rfl) ?hf1x0 ?hr1x0 (fun _ _ _ h => h) ?hy1x0 (by assumption) ?rest1x0
      case hi1x0 => (simp only [List.getElem?_toArray, List.getElem?_cons_zero]; exact rfl)
      case hf1x0 => kernel_rfl
      case hr1x0 => kernel_rfl
      case hy1x0 => (refine Or.inl ⟨by rfl, ?_⟩; intro w hSw; (try dsimp only at hSw); go_simp; try with_reducible rfl)
      simp only [put_mk, List.set_cons_succ, List.set_cons_zero]
      refine wpAnyH_take (i := 1) (oi := ?o1x1) (v := ?v1x1) ?hi1x1 (by kernel_rfl) ?hf1x1 ?hr1x1 (fun _ _ _ h => h) ?hy1x1 (by assumption) ?rest1x1
      case hi1x1 => (simp only [List.getElem?_toArray, List.getElem?_cons_succ, List.getElem?_cons_zero]; exact rfl)
      case hf1x1 => kernel_rfl
      case hr1x1 => kernel_rfl
      case hy1x1 => (refine Or.inl ⟨by rfl, ?_⟩; intro w hSw; (try dsimp only at hSw); go_simp; try with_reducible rfl)
      simp only [put_mk, List.set_cons_succ, List.set_cons_zero]
      refine wpAnyH_take (i := 2) (oi := ?o1x2) (v := ?v1x2) ?hi1x2 (by kernel_rfl) ?hf1x2 ?hr1x2 (fun _ _ _ h => h) ?hy1x2 (by assumption) ?rest1x2
      case hi1x2 => (simp only [List.getElem?_toArray, List.getElem?_cons_succ, List.getElem?_cons_zero]; exact rfl)
      case hf1x2 => kernel_rfl
      case hr1x2 => kernel_rfl
      case hy1x2 => (refine Or.inl ⟨by rfl, ?_⟩; intro w hSw; (try dsimp only at hSw); go_simp; try with_reducible rfl)
      simp only [put_mk, List.set_cons_succ, List.set_cons_zero]
      refine wpAnyH_take (i := 3) (oi := ?o1x3) (v := ?v1x3) ?hi1x3 (by kernel_rfl) ?hf1x3 ?hr1x3 (fun _ _ _ h => h) ?hy1x3 (by assumption) ?rest1x3
      case hi1x3 => (simp only [List.getElem?_toArray, List.getElem?_cons_succ, List.getElem?_cons_zero]; exact rfl)
      case hf1x3 => kernel_rfl
      case hr1x3 => kernel_rfl
      case hy1x3 => (refine Or.inl ⟨by rfl, ?_⟩; intro w hSw; (try dsimp only at hSw); go_simp; try with_reducible rfl)
      simp only [put_mk, List.set_cons_succ, List.set_cons_zero]
      refine wpAnyH_take (i := 4) (oi := ?o1x4) (v := ?v1x4) ?hi1x4 (by kernel_rfl) ?hf1x4 ?hr1x4 (fun _ _ _ h => h) ?hy1x4 (by assumption) ?rest1x4
      case hi1x4 => (simp only [List.getElem?_toArray, List.getElem?_cons_succ, List.getElem?_cons_zero]; exact rfl)
      case hf1x4 => kernel_rfl
      case hr1x4 => kernel_rfl
      case hy1x4 => (refine Or.inl ⟨by rfl, ?_⟩; intro w hSw; (try dsimp only at hSw); go_simp; try with_reducible rfl)
      simp only [put_mk, List.set_cons_succ, List.set_cons_zero]
      refine wpAnyH_take (i := 5) (oi := ?o1x5) (v := ?v1x5) ?hi1x5 (by kernel_rfl) ?hf1x5 ?hr1x5 (fun _ _ _ h => h) ?hy1x5 (by assumption) ?rest1x5
      case hi1x5 => (simp only [List.getElem?_toArray, List.getElem?_cons_succ, List.getElem?_cons_zero]; exact rfl)
      case hf1x5 => kernel_rfl
      case hr1x5 => kernel_rfl
      case hy1x5 => (refine Or.inl ⟨by rfl, ?_⟩; intro w hSw; (try dsimp only at hSw); go_simp; try with_reducible rfl)
      simp only [put_mk, List.set_cons_succ, List.set_cons_zero]
      refine wpAnyH_take (i := 6) (oi := ?o1x6) (v := ?v1x6) ?hi1x6 (by kernel_rfl) ?hf1x6 ?hr1x6 (fun _ _ _ h => h) ?hy1x6 (by assumption) ?rest1x6
      case hi1x6 => (simp only [List.getElem?_toArray, List.getElem?_cons_succ, List.getElem?_cons_zero]; exact rfl)
      case hf1x6 => kernel_rfl
      case hr1x6 => kernel_rfl
      case hy1x6 => (refine Or.inl ⟨by rfl, ?_⟩; intro w hSw; (try dsimp only at hSw); go_simp; try with_reducible rfl)
      simp only [put_mk, List.set_cons_succ, List.set_cons_zero]
      refine wpAnyH_take (i := 7) (oi := ?o1x7) (v := ?v1x7) ?hi1x7 (by kernel_rfl) ?hf1x7 ?hr1x7 (fun _ _ _ h => h) ?hy1x7 (by assumption) ?rest1x7
      case hi1x7 => (simp only [List.getElem?_toArray, List.getElem?_cons_succ, List.getElem?_cons_zero]; exact rfl)
      case hf1x7 => kernel_rfl
      case hr1x7 => kernel_rfl
      case hy1x7 => (refine Or.inl ⟨by rfl, ?_⟩; intro w hSw; (try dsimp only at hSw); go_simp; try with_reducible rfl)
      simp only [put_mk, List.set_cons_succ, List.set_cons_zero]
      refine wpAnyH_take (i := 8) (oi := ?o1x8) (v := ?v1x8) ?hi1x8 (by kernel_rfl) ?hf1x8 ?hr1x8 (fun _ _ _ h => h) ?hy1x8 (by assumption) ?rest1x8
      case hi1x8 => (simp only [List.getElem?_toArray, List.getElem?_cons_succ, List.getElem?_cons_zero]; exact rfl)
      case hf1x8 => kernel_rfl
      case hr1x8 => kernel_rfl
      case hy1x8 => (refine Or.inl ⟨by rfl, ?_⟩; intro w hSw; (try dsimp only at hSw); go_simp; try with_reducible rfl)
      simp only [put_mk, List.set_cons_succ, List.set_cons_zero]
      refine wpAnyH_take (i := 9) (oi := ?o1x9) (v := ?v1x9) ?hi1x9 (by kernel_rfl) ?hf1x9 ?hr1x9 (fun _ _ _ h => h) ?hy1x9 (by assumption) ?rest1x9
      case hi1x9 => (simp only [List.getElem?_toArray, List.getElem?_cons_succ, List.getElem?_cons_zero]; exact rfl)
      case hf1x9 => kernel_rfl
      case hr1x9 => kernel_rfl
      case hy1x9 => (refine Or.inl ⟨by rfl, ?_⟩; intro w hSw; (try dsimp only at hSw); go_simp; try with_reducible rfl)
      simp only [put_mk, List.set_cons_succ, List.set_cons_zero]
      refine wpAnyH_take (i := 10) (oi := ?o1x10) (v := ?v1x10) ?hi1x10 (by kernel_rfl) ?hf1x10 ?hr1x10 (fun _ _ _ h => h) ?hy1x10 (by assumption) ?rest1x10
      case hi1x10 => (simp only [List.getElem?_toArray, List.getElem?_cons_succ, List.getElem?_cons_zero]; exact rfl)
      case hf1x10 => kernel_rfl
      case hr1x10 => kernel_rfl
      case hy1x10 => (refine Or.inl ⟨by rfl, ?_⟩; intro w hSw; (try dsimp only at hSw); go_simp; try with_reducible rfl)
      simp only [put_mk, List.set_cons_succ, List.set_cons_zero]
      refine wpAnyH_take (i := 12) (oi := ?o1x12) (v := ?v1x12) ?hi1x12 (by kernel_rfl) ?hf1x12 ?hr1x12 (fun _ _ _ h => h) ?hy1x12 (by assumption) ?rest1x12
      case hi1x12 => (simp only [List.getElem?_toArray, List.getElem?_cons_succ, List.getElem?_cons_zero]; exact rfl)
      case hf1x12 => kernel_rfl
      case hr1x12 => kernel_rfl
      case hy1x12 => (refine Or.inl ⟨by rfl, ?_⟩; intro w hSw; (try dsimp only at hSw); go_simp; try with_reducible rfl)
      simp only [put_mk, List.set_cons_succ, List.set_cons_zero]
      refine wpAnyH_ready (rs := [11]) (by kernel_rfl) (by simp) ?_
      refine AllReadyH.cons (o := ?o1x11) ?hi1x11 (fun K hK => ?_) AllReadyH.nil
      case hi1x11 => (simp only [List.getElem?_toArray, List.getElem?_cons_succ, List.getElem?_cons_zero]; exact rfl)
      go_simp
      go_at_call 52
      refine ((HAb _ hab _).out).mono ?_
      rintro e wl ⟨rfl, hwl⟩
      subst wl
      refine hK.out _ _ ?_ (fun hHeld => ?_)
      · (first | exact hx9 | (repeat (first | exact Ext.refl _ | assumption | refine Ext.setCell ?_ (by first | (simp; done) | (simp; omega)) _ | refine Ext.drewN ?_ _ | refine Ext.alloc ?_ _ | refine Ext.drew ?_ | refine Ext.trans ?_ (by assumption))))
      clear hK K
      refine wpAnyH_take (i := 13) (oi := ?o1x13) (v := ?v1x13) ?hi1x13 (by kernel_rfl) ?hf1x13 ?hr1x13 (fun _ _ _ h => h) ?hy1x13 (by assumption) ?rest1x13
      case hi1x13 => (simp only [List.getElem?_toArray, List.getElem?_cons_succ, List.getElem?_cons_zero]; exact rfl)
      case hf1x13 => kernel_rfl
      case hr1x13 => kernel_rfl
      case hy1x13 => (refine Or.inl ⟨by rfl, ?_⟩; intro w hSw; (try dsimp only at hSw); go_simp; try with_reducible rfl)
      simp only [put_mk, List.set_cons_succ, List.set_cons_zero]
      refine wpAnyH_ready (rs := [14]) (by kernel_rfl) (by simp) ?_
      refine AllReadyH.cons (o := ?o1x14) ?hi1x14 (fun K hK => ?_) AllReadyH.nil
      case hi1x14 => (simp only [List.getElem?_toArray, List.getElem?_cons_succ, List.getElem?_cons_zero]; exact rfl)
      go_simp
      refine hK.out _ _ ?_ (fun hHeld => ?_)
      · (first | exact hx9 | (repeat (first | exact Ext.refl _ | assumption | refine Ext.setCell ?_ (by first | (simp; done) | (simp; omega)) _ | refine Ext.drewN ?_ _ | refine Ext.alloc ?_ _ | refine Ext.drew ?_ | refine Ext.trans ?_ (by assumption))))
      clear hK K
      refine wpAnyH_ready (rs := [15]) (by kernel_rfl) (by simp) ?_
      refine AllReadyH.cons (o := ?o1x15) ?hi1x15 (fun K hK => ?_) AllReadyH.nil
      case hi1x15 => (simp only [List.getElem?_toArray, List.getElem?_cons_succ, List.getElem?_cons_zero]; exact rfl)
      refine step_append_lies _ (by rfl) (.tmp 77) (.tmp 91) 24 (by rfl) w6.heap.size 27 ti (.float .f32 0) 1 4 Try.underlying24 hi0 hz0 hz1 hz2 (by rfl) (by decide) _ _ _ (by rfl) hown2.out ⟨wr.heap.size, 0, none⟩ 1 1 [.float .f32 x] (by rfl) (by rfl) hnews.out hone.out (by omega) hmx2.out hmb.out hs9.out (wr.heap.size + 1) hsz1.out ?_
      intro gg cap9 w9 hown9 hgrow9 hat hlt
      have hx9 : Ext w6 w9 := hxa.out.grown hgrow9 (fun b hb => (World.ownsRow.lt hown2.out b hb).1)
      refine hK.out _ _ ?_ (fun hHeld => ?_)
      · (first | exact hx9 | (repeat (first | exact Ext.refl _ | assumption | refine Ext.setCell ?_ (by first | (simp; done) | (simp; omega)) _ | refine Ext.drewN ?_ _ | refine Ext.alloc ?_ _ | refine Ext.drew ?_ | refine Ext.trans ?_ (by assumption))))
      clear hK K
      simp only [put_mk, List.set_cons_succ, List.set_cons_zero]
      refine wpAnyH_take (i := 16) (oi := ?o1x16) (v := ?v1x16) ?hi1x16 (by kernel_rfl) ?hf1x16 ?hr1x16 (fun _ _ _ h => h) ?hy1x16 (by assumption) ?rest1x16
      case hi1x16 => (simp only [List.getElem?_toArray, List.getElem?_cons_succ, List.getElem?_cons_zero]; exact rfl)
      case hf1x16 => kernel_rfl
      case hr1x16 => kernel_rfl
      case hy1x16 => (refine Or.inl ⟨by rfl, ?_⟩; intro w hSw; (try dsimp only at hSw); go_simp; try with_reducible rfl)
      simp only [put_mk, List.set_cons_succ, List.set_cons_zero]
      refine wpAnyH_done (by kernel_rfl) ?_ _
      refine NoPanic.normal ?_
      have HO9 := hidA (show OwnFl w9 w6.heap.size (.slice (some ⟨gg, 0, none⟩) ((grL lf X Y Wn l i).length + 1) cap9) (grL lf X Y Wn l (i + 1)) from by
        rw [Hnx.out]
        exact OwnFl.push hown9)
      have Hx9 := hidA hx9
      clear Hnx Hlen hxa hown2 hnews hone hs9 hsz1 hmx2 hmb hown9 hgrow9 hat hlt hx9 hHeld c0 c1 hx iw hr1 hr2 hab
      go_wp2
      go_roundw
      case rel => exact ⟨i + 1, Hin.out, (by first | rfl | go_num), HO9.out, Hx9.out⟩
      case measure => exact nxt_y Hin.out
    · obtain rfl : i = n - 1 := by omega
      obtain ⟨A2, cap2, rfl, hR2⟩ := hO.any
      have HNg := hidA (numberError_any A2 (n - 1) cap2 (grL lf X Y Wn l (n - 1)) wr (grL_length lf X Y Wn l (n - 1)) hR2 (by omega))
      have hxw := Hxe.out.trans hx
      have HkW := hidA (HkF.out.ext hx)
      have HEg : ∀ (A3 : Option Addr) (cap3 : Nat), Rd wr A3 (flt (grL lf X Y Wn l (n - 1))) → Hid (Calls Try.prog 46 #[.slice A3 (n - 1) cap3, .slice A2 (n - 1) cap2] wr fun e w' => e = .returned (.bool true) ∧ Ext wr w') := fun A3 cap3 h => hidA (eqFlo_same A3 A2 (n - 1) cap3 cap2 (grL lf X Y Wn l (n - 1)) (grL lf X Y Wn l (n - 1)) wr (grL_length lf X Y Wn l (n - 1)) (grL_length lf X Y Wn l (n - 1)) h hR2 (by omega) (fun k h1 h2 => ord_eq_self (Hfin.out (n - 1) (Nat.le_refl _) _ (List.getElem_mem h1))))
      have hE2 : numE (grL lf X Y Wn l (n - 1)) = 0 ∨ numE (grL lf X Y Wn l (n - 1)) = 3 := numE_fin (l := grL lf X Y Wn l (n - 1)) (fun b hb => Hfin.out (n - 1) (Nat.le_refl _) b hb)
      rw [grL_length]
      have Hx4w := hidA (Hx46.out.trans hx)
      clear hO hR2 hx hi hin
      generalize numE (grL lf X Y Wn l (n - 1)) = eq at *
      obtain rfl := Hg1.out
      rcases hE2 with rfl | rfl
      · obtain ⟨A3, cap3, rfl, hR3⟩ := Hg4.out rfl
        have HEq := HEg A3 cap3 (hR3.ext Hx4w.out)
        clear Hg1 Hg2 Hg4 HEg hR3
        go_upto_region 18 with (first | (go_at_call 32; refine (HNg.out).mono ?_; rintro e w11 ⟨rfl, hw11⟩; subst hw11) | (go_at_call 46; refine (HEq.out).mono ?_; rintro e w12 ⟨rfl, hx12⟩))
        have hxz := hxw.trans hx12
        have kFz := HkW.out.ext hx12
        have Hxz := hidA hxz
        clear hxw HkW hx12 HNg HEq
        generalize hwq : w12 = wz at *
        clear hwq
        clear hxz kFz
        cases hl : lt most 0
        · have hl' : (FloatKind.f32.format.order most 0 == some .lt) = false := hl
          cases hg : gt most 1149239296
          · have hg' : (FloatKind.f32.format.order most 1149239296 == some .gt) = false := hg
            have HSx := fun (B : Option Addr) (w : World) h => HS3 false B w (by rw [hl, hg]; simp) h
            clear hl hg
            go_wp2_with (first | (go_at_call 35; refine ((HWi _ _ _ _).out).mono ?_; rintro e w21 ⟨rfl, hw21⟩; subst hw21) | (go_at_call 19; refine ((HWh _ _ _).out).mono ?_; rintro e w22 ⟨rfl, hw22⟩; subst hw22) | (go_at_call 32; refine ((HNe _ _ (Bk.new' rfl)).out).mono ?_; rintro e w23 ⟨rfl, hw23⟩; subst hw23) | (go_at_call 17; refine ((HSx _ _ (Rd.new (by first | rfl | simp) (by first | rfl | simp))).out).mono ?_; rintro e w24 ⟨rfl, hw24⟩; subst hw24))
            go_ret
            exact ⟨by first | rfl | simp, Hxz.out.trans (by repeat (first | exact Ext.refl _ | assumption | refine Ext.setCell ?_ (by first | (simp; done) | (simp; omega)) _ | refine Ext.drewN ?_ _ | refine Ext.alloc ?_ _ | refine Ext.drew ?_ | refine Ext.trans ?_ (by assumption)))⟩
          · have hg' : (FloatKind.f32.format.order most 1149239296 == some .gt) = true := hg
            have HSx := fun (B : Option Addr) (w : World) h => HS3 true B w (by rw [hg]; simp) h
            clear hl hg
            go_wp2_with (first | (go_at_call 35; refine ((HWi _ _ _ _).out).mono ?_; rintro e w21 ⟨rfl, hw21⟩; subst hw21) | (go_at_call 19; refine ((HWh _ _ _).out).mono ?_; rintro e w22 ⟨rfl, hw22⟩; subst hw22) | (go_at_call 32; refine ((HNe _ _ (Bk.new' rfl)).out).mono ?_; rintro e w23 ⟨rfl, hw23⟩; subst hw23) | (go_at_call 17; refine ((HSx _ _ (Rd.new (by first | rfl | simp) (by first | rfl | simp))).out).mono ?_; rintro e w24 ⟨rfl, hw24⟩; subst hw24))
            go_ret
            exact ⟨by first | rfl | simp, Hxz.out.trans (by repeat (first | exact Ext.refl _ | assumption | refine Ext.setCell ?_ (by first | (simp; done) | (simp; omega)) _ | refine Ext.drewN ?_ _ | refine Ext.alloc ?_ _ | refine Ext.drew ?_ | refine Ext.trans ?_ (by assumption)))⟩
        · have hl' : (FloatKind.f32.format.order most 0 == some .lt) = true := hl
          have HSx := fun (B : Option Addr) (w : World) h => HS3 true B w (by rw [hl]; simp) h
          clear hl
          go_wp2_with (first | (go_at_call 35; refine ((HWi _ _ _ _).out).mono ?_; rintro e w21 ⟨rfl, hw21⟩; subst hw21) | (go_at_call 19; refine ((HWh _ _ _).out).mono ?_; rintro e w22 ⟨rfl, hw22⟩; subst hw22) | (go_at_call 32; refine ((HNe _ _ (Bk.new' rfl)).out).mono ?_; rintro e w23 ⟨rfl, hw23⟩; subst hw23) | (go_at_call 17; refine ((HSx _ _ (Rd.new (by first | rfl | simp) (by first | rfl | simp))).out).mono ?_; rintro e w24 ⟨rfl, hw24⟩; subst hw24))
          go_ret
          exact ⟨by first | rfl | simp, Hxz.out.trans (by repeat (first | exact Ext.refl _ | assumption | refine Ext.setCell ?_ (by first | (simp; done) | (simp; omega)) _ | refine Ext.drewN ?_ _ | refine Ext.alloc ?_ _ | refine Ext.drew ?_ | refine Ext.trans ?_ (by assumption)))⟩
      · have hgv := Hg2.out (by decide)
        subst hgv
        clear Hg1 Hg2 Hg4 HEg
        go_upto_region 18 with (go_at_call 32; refine (HNg.out).mono ?_; rintro e w11 ⟨rfl, hw11⟩; subst hw11)
        have hxz := hxw
        have kFz := HkW.out
        have Hxz := hidA hxz
        clear hxw HkW HNg
        generalize hwq : wr = wz at *
        clear hwq
        clear hxz kFz
        cases hl : lt most 0
        · have hl' : (FloatKind.f32.format.order most 0 == some .lt) = false := hl
          cases hg : gt most 1149239296
          · have hg' : (FloatKind.f32.format.order most 1149239296 == some .gt) = false := hg
            have HSx := fun (B : Option Addr) (w : World) h => HS3 false B w (by rw [hl, hg]; simp) h
            clear hl hg
            go_wp2_with (first | (go_at_call 35; refine ((HWi _ _ _ _).out).mono ?_; rintro e w21 ⟨rfl, hw21⟩; subst hw21) | (go_at_call 19; refine ((HWh _ _ _).out).mono ?_; rintro e w22 ⟨rfl, hw22⟩; subst hw22) | (go_at_call 32; refine ((HNe _ _ (Bk.new' rfl)).out).mono ?_; rintro e w23 ⟨rfl, hw23⟩; subst hw23) | (go_at_call 17; refine ((HSx _ _ (Rd.new (by first | rfl | simp) (by first | rfl | simp))).out).mono ?_; rintro e w24 ⟨rfl, hw24⟩; subst hw24))
            go_ret
            exact ⟨by first | rfl | simp, Hxz.out.trans (by repeat (first | exact Ext.refl _ | assumption | refine Ext.setCell ?_ (by first | (simp; done) | (simp; omega)) _ | refine Ext.drewN ?_ _ | refine Ext.alloc ?_ _ | refine Ext.drew ?_ | refine Ext.trans ?_ (by assumption)))⟩
          · have hg' : (FloatKind.f32.format.order most 1149239296 == some .gt) = true := hg
            have HSx := fun (B : Option Addr) (w : World) h => HS3 true B w (by rw [hg]; simp) h
            clear hl hg
            go_wp2_with (first | (go_at_call 35; refine ((HWi _ _ _ _).out).mono ?_; rintro e w21 ⟨rfl, hw21⟩; subst hw21) | (go_at_call 19; refine ((HWh _ _ _).out).mono ?_; rintro e w22 ⟨rfl, hw22⟩; subst hw22) | (go_at_call 32; refine ((HNe _ _ (Bk.new' rfl)).out).mono ?_; rintro e w23 ⟨rfl, hw23⟩; subst hw23) | (go_at_call 17; refine ((HSx _ _ (Rd.new (by first | rfl | simp) (by first | rfl | simp))).out).mono ?_; rintro e w24 ⟨rfl, hw24⟩; subst hw24))
            go_ret
            exact ⟨by first | rfl | simp, Hxz.out.trans (by repeat (first | exact Ext.refl _ | assumption | refine Ext.setCell ?_ (by first | (simp; done) | (simp; omega)) _ | refine Ext.drewN ?_ _ | refine Ext.alloc ?_ _ | refine Ext.drew ?_ | refine Ext.trans ?_ (by assumption)))⟩
        · have hl' : (FloatKind.f32.format.order most 0 == some .lt) = true := hl
          have HSx := fun (B : Option Addr) (w : World) h => HS3 true B w (by rw [hl]; simp) h
          clear hl
          go_wp2_with (first | (go_at_call 35; refine ((HWi _ _ _ _).out).mono ?_; rintro e w21 ⟨rfl, hw21⟩; subst hw21) | (go_at_call 19; refine ((HWh _ _ _).out).mono ?_; rintro e w22 ⟨rfl, hw22⟩; subst hw22) | (go_at_call 32; refine ((HNe _ _ (Bk.new' rfl)).out).mono ?_; rintro e w23 ⟨rfl, hw23⟩; subst hw23) | (go_at_call 17; refine ((HSx _ _ (Rd.new (by first | rfl | simp) (by first | rfl | simp))).out).mono ?_; rintro e w24 ⟨rfl, hw24⟩; subst hw24))
          go_ret
          exact ⟨by first | rfl | simp, Hxz.out.trans (by repeat (first | exact Ext.refl _ | assumption | refine Ext.setCell ?_ (by first | (simp; done) | (simp; omega)) _ | refine Ext.drewN ?_ _ | refine Ext.alloc ?_ _ | refine Ext.drew ?_ | refine Ext.trans ?_ (by assumption)))⟩
set_option maxRecDepth 100000 in
set_option maxHeartbeats 12800000 in
theorem beds_good (X Y : Int) (Wn Hn : Nat) (A : Option Addr) (N c : Nat) (lf : List Nat) (B : Option Addr) (n d : Nat) (l : List (Int × Int)) (how : Int) (most : Nat) (w : World) (hr : Reg X Y Wn Hn) (hN : N = Wn * Hn) (hlf : lf.length = N) (hh : ∀ j, j < N → Bd 20 (lf.getD j 0)) (hV : Rd w A (flt lf)) (hn : l.length = n) (hP : Rd w B (ptv l)) (hnd : n ≤ d) (h0 : fieldE X Y Wn Hn lf = 0) (hW : wayE (outP X Y Wn Hn) l = 0) (hE : bedE how most = 0) :
    Calls Try.prog 11 #[.agg #[.int .i64 X, .int .i64 Y, .int .i64 (Wn : Int), .int .i64 (Hn : Int), .slice A N c], .slice B n d, .int .i64 how, .float .f32 most] w fun e w' => e = .returned (.bool true) ∧ Ext w w' := by
  have hok := wayOk hW
  have hn6 : n ≤ 65536 := by have := hok.le; omega
  have hn1 : 1 ≤ n := by have := hok.pos; omega
  have hb : N ≤ 140737488351232 := by have := hr.n; omega
  have HBd := fun (w' : World) (h : Ext w w') => hidA (Bed_good X Y Wn Hn A N c lf B n d l how most w' hr hN hlf hh (hV.ext h) hn (hP.ext h) hnd h0 hW hE)
  unfold BedPost at HBd
  have HBo := fun (w' : World) (h : Ext w w') => hidA (BedOf_good X Y Wn Hn A N c lf B n d l how most w' hr hN hlf hh (hV.ext h) hn (hP.ext h) hW hE)
  have Hbf : Hid (∀ b, b ∈ (List.range n).map (bedF how (drpX most l) (hgtY lf X Y Wn l) (n - 1)) → finB b = true) := fun b hb => by
    obtain ⟨k, hk, rfl⟩ := List.mem_map.1 hb
    obtain ⟨_, _, _, _, hM, hM0⟩ := bedE_zero hE
    exact bedF_fin (by rw [show n - 1 + 1 = n by omega]; exact hgt_way hN hh hok hn) (drp_ok hok hn hM hM0).1 (by have := List.mem_range.1 hk; omega)
  have HGr := fun (w' : World) (h : Ext w w') => hidA (Grades_ok X Y Wn Hn A N c lf B n d l w' hr hN hlf hh (hV.ext h) hn (hP.ext h) hnd h0 hW)
  have HFi := fun (w' : World) (h : Ext w w') => hidA (fieldError_any X Y Wn Hn A N c lf w' hlf (hV.ext h) hb)
  have HWe := fun (hf : Nat) (w' : World) (h : Ext w w') (kF : Bk w' hf 26 #[.int .i64 X, .int .i64 Y, .int .i64 (Wn : Int), .int .i64 (Hn : Int), .slice A N c]) => hidA (WayErrorF_any X Y Wn Hn A N c hf B n d l w' hr kF hn (hP.ext h) (by omega))
  rw [h0] at HFi
  rw [hW] at HWe
  have HL := fun (w : World) => hidA (leads_any w)
  have HS2 := fun (B : Option Addr) (w : World) (h : Rd w B [.int .i64 0, .int .i64 0]) => hidA (show Calls Try.prog 17 #[.slice B 2 2] w fun e w' => e = .returned (.int .i64 0) ∧ w = w' from first_any B 2 2 [0, 0] w rfl h (by omega))
  have HVa := fun (w' : World) (h : Ext w w') => hidA (Values_any X Y Wn Hn A N c lf B n d l w' hr hN hlf (hV.ext h) hn (hP.ext h) hok)
  have HLn := fun (w' : World) (h : Ext w w') => hidA (LengthsR_any (fun p hp => outP_bd hr hp) B n d l w' hn (hP.ext h) hok)
  have HAb := fun (b : Nat) (h : b < 4294967296) (w : World) => hidA (refAbs_any b w h)
  have Hbd := hidA (fun (i : Nat) (h : i < n) => show Bd 20 (hgtY lf X Y Wn l i) from hh _ (by rw [hN]; exact (kOf_in (outP_in (hok.ok i (by omega)))).1))
  have Hst := hidA (fun (i : Nat) (h : i + 1 < n) => hok.st (i + 1) (by omega) (by omega))
  have Hfin := hidA (show ∀ i, i ≤ n - 1 → ∀ x, x ∈ grL lf X Y Wn l i → finB x = true from fun i => by
    induction i with
    | zero => intro _ x hx; cases hx
    | succ i ih =>
      intro hi x hx
      rw [grL] at hx
      rcases List.mem_append.1 hx with h1 | h1
      · exact ih (by omega) x h1
      · rw [List.mem_singleton.1 h1]
        obtain ⟨_, _, m1, m2⟩ := hok.st (i + 1) (by omega) (by omega)
        obtain ⟨l1, _, l3⟩ := len_ok (d := (lpo l (i + 1)).1) m1 m2
        exact bd_finB (gr_ok (hh _ (by rw [hN]; exact (kOf_in (outP_in (hok.ok i (by omega)))).1)) (hh _ (by rw [hN]; exact (kOf_in (outP_in (hok.ok (i + 1) (by omega)))).1)) l1 l3).2.2.2.1 (by omega))
  have HWh : ∀ (b : Bool) (k : Int) (w : World), Hid (Calls Try.prog 19 #[.bool b, .int .i64 k] w fun e w' => e = .returned (.int .i64 (whenI b k)) ∧ w = w') := fun b k w => hidA (when_any b k w)
  have HWi : ∀ (a b c : Int) (w : World), Hid (Calls Try.prog 35 #[.int .i64 a, .int .i64 b, .int .i64 c] w fun e w' => e = .returned (.bool (withI a b c)) ∧ w = w') := fun a b c w => hidA (within_any a b c w)
  have HNe := fun (g : Nat) (w' : World) (h : Bk w' g 27 #[.float .f32 most]) => hidA (numberError_any (some ⟨g, 0, none⟩) 1 1 [most] w' rfl (fun _ => ⟨_, rfl, h.lt, fun j u hu => by rw [lit_add, h.cell]; simpa [flt] using hu⟩) (by omega))
  have HS3 : ∀ (bb : Bool) (B : Option Addr) (w : World), (bb = true ↔ lt most 0 = true ∨ gt most 1149239296 = true) → Rd w B [.int .i64 (whenI (!withI how 1 3) 1), .int .i64 (numE [most]), .int .i64 (whenI bb 3)] → Hid (Calls Try.prog 17 #[.slice B 3 3] w fun e w' => e = .returned (.int .i64 (bedE how most)) ∧ w = w') := fun bb B w hb h => by
    have h9 := first_any B 3 3 [whenI (!withI how 1 3) 1, numE [most], whenI bb 3] w rfl h (by omega)
    rw [bedE_first how most bb hb] at h9
    exact hidA h9
  obtain ⟨ti, hi0, hz0, hz1, hz2⟩ := info_parts infoFlo
  have hltM := (bedE_zero hE).2.2.1
  have hgtM := (bedE_zero hE).2.2.2.1
  rw [hE] at HS3
  clear hr hN hlf hh hV hn hP hnd h0 hW hok hb hE
  generalize hbv : (List.range n).map (bedF how (drpX most l) (hgtY lf X Y Wn l) (n - 1)) = bv at *
  have Hbv := hidA hbv
  clear hbv
  go_enter Try.func11, Try.ntmps11
  go_upto_region 1 with fail
  have kF : Bk (w.alloc (.cells #[.int .i64 X, .int .i64 Y, .int .i64 (Wn : Int), .int .i64 (Hn : Int), .slice A N c] 26)) w.heap.size 26 #[.int .i64 X, .int .i64 Y, .int .i64 (Wn : Int), .int .i64 (Hn : Int), .slice A N c] := Bk.new' rfl
  have hx0 := (Ext.refl w).alloc (.cells #[.int .i64 X, .int .i64 Y, .int .i64 (Wn : Int), .int .i64 (Hn : Int), .slice A N c] 26)
  generalize w.alloc (.cells #[.int .i64 X, .int .i64 Y, .int .i64 (Wn : Int), .int .i64 (Hn : Int), .slice A N c] 26) = w0 at *
  generalize w.heap.size = hf at *
  have f0 := kF.cell 0
  have f1 := kF.cell 1
  have f2 := kF.cell 2
  have f3 := kF.cell 3
  have f4 := kF.cell 4
  go_upto_region 4 with (first | (go_at_call 47; refine ((HBd _ hx0).out).mono ?_; rintro e w1 ⟨vb, eb, rfl, hx1, hb1, hb2, hb3⟩; have kF1 := kF.ext hx1; have x0 := kF1.cell 0; have x1 := kF1.cell 1; have x2 := kF1.cell 2; have x3 := kF1.cell 3; have x4 := kF1.cell 4) | (go_at_call 48; refine ((HGr _ (hx0.trans hx1)).out).mono ?_; rintro e w2 ⟨vg, eg, rfl, hx2, hg1, hg2, hg3⟩; have kF2 := kF1.ext hx2; have y0 := kF2.cell 0; have y1 := kF2.cell 1; have y2 := kF2.cell 2; have y3 := kF2.cell 3; have y4 := kF2.cell 4) | (go_at_call 49; refine ((HFi _ ((hx0.trans hx1).trans hx2)).out).mono ?_; rintro e w3 ⟨rfl, hx3⟩; have kF3 := kF2.ext hx3) | (go_at_call 39; refine ((HWe _ _ (((hx0.trans hx1).trans hx2).trans hx3) kF3).out).mono ?_; rintro e w5 ⟨rfl, hx5⟩) | (go_at_call 17; refine ((HS2 _ _ (Rd.new (by first | rfl | simp) (by first | rfl | simp))).out).mono ?_; rintro e w8 ⟨rfl, hw8⟩; subst hw8))
  have hxa := (((hx0.trans hx1).trans hx2).trans hx3).trans hx5
  have kF5 := (kF3.ext hx5).alloc (.cells #[.int .i64 0, .int .i64 0] 33)
  have hxb := hxa.alloc (.cells #[.int .i64 0, .int .i64 0] 33)
  have hx25 := ((hx3.trans hx5).alloc (.cells #[.int .i64 0, .int .i64 0] 33))
  have hx15 := hx2.trans hx25
  have Hg1 := hidA hg1
  have Hg2 := hidA hg2
  have Hg3 := hidA (fun h => (hg3 h).imp fun A2 h => h.imp fun cap h => And.intro h.1 (h.2.ext hx25))
  have Hb1 := hidA hb1
  have Hb2 := hidA hb2
  have Hb3 := hidA (fun h => (hb3 h).imp fun A2 h => h.imp fun cap h => And.intro h.1 (h.2.ext hx15))
  clear hb1 hb2 hb3
  clear f0 f1 f2 f3 f4 x0 x1 x2 x3 x4 y0 y1 y2 y3 y4 kF kF1 kF2 kF3 hx0 hx1 hx2 hx3 hx5 hxa hx25 hx15 hg1 hg2 hg3 HBd HGr HFi HWe HS2
  generalize w5.alloc (.cells #[.int .i64 0, .int .i64 0] 33) = w5a at *
  go_upto_region 7 with (go_at_call 15; refine ((HL _).out).mono ?_; rintro e w4 ⟨rfl, hx4⟩)
  have kF6 := kF5.ext hx4
  have hxc := hxb.trans hx4
  have Hg4 := hidA (fun h => (Hg3.out h).imp fun A2 h => h.imp fun cap h => And.intro h.1 (h.2.ext hx4))
  have Hb4 := hidA (fun h => (Hb3.out h).imp fun A2 h => h.imp fun cap h => And.intro h.1 (h.2.ext hx4))
  clear Hb3
  clear Hg3 kF5 hxb
  have f0 := kF6.cell 0
  have f1 := kF6.cell 1
  have f2 := kF6.cell 2
  have f3 := kF6.cell 3
  have f4 := kF6.cell 4
  go_upto_region 8 with (go_at_call 50; refine ((HVa _ hxc).out).mono ?_; rintro e w7 ⟨vv, rfl, hOv, hx7⟩; obtain ⟨AV, capV, rfl, hRv⟩ := hOv.any; rw [vlL_length])
  have kF7 := kF6.ext hx7
  have hxd := hxc.trans hx7
  have h47 := hidA hx7
  clear f0 f1 f2 f3 f4 kF6 hOv HVa hxc hx7
  go_upto_region 9 with (go_at_call 51; refine ((HLn _ hxd).out).mono ?_; rintro e w6 ⟨vl, rfl, hOl, hx6⟩; obtain ⟨AL, capL, rfl, hRl⟩ := hOl.any; rw [lnL_length])
  have HRv := hidA (hRv.ext hx6)
  have HRl := hidA hRl
  have HkF := hidA (kF7.ext hx6)
  have Hxe := hidA (hxd.trans hx6)
  have Hx46 := hidA (h47.out.trans hx6)
  clear kF7 hOl hRl hRv HLn hxd hx6 h47 hx4
  obtain ⟨adV, rfl, _, _⟩ := HRv.out (by intro e; have h9 := congrArg List.length e; simp [flt, vlL_length] at h9; omega)
  go_loopw [14, 72] (fun s14 s72 wr => ∃ i : Nat, i ≤ n - 1 ∧ s72 = .int .i64 i ∧ OwnFl wr w6.heap.size s14 (grL lf X Y Wn l i) ∧ Ext w6 wr) (fun _ s72 _ => n - (intOf s72).toNat)
  case atStart => exact ⟨0, Nat.zero_le _, rfl, World.ownsRow_nil _ _ _ _, Ext.refl _⟩
  case round =>
    obtain ⟨i, hi, rfl, hO, hx⟩ := hrel
    by_cases hin : i < n - 1
    · have Hin := hidA hin
      obtain ⟨adL, rfl, _, hcv⟩ := (HRl.out.ext hx).at (k := i) (by simp [flt, lnL_length]; omega)
      have v1 := hcv i _ (flt_get (l := lnL l (n - 1)) (by rw [lnL_length]; omega))
      have hge := lnL_get l (n - 1) i hin
      have hst := Hst.out i (by omega)
      obtain ⟨_, hd8, m1, m2⟩ := hst
      have hln := len_ok (d := (lpo l (i + 1)).1) m1 m2
      have Hnx := hidA (show grL lf X Y Wn l (i + 1) = grL lf X Y Wn l i ++ [grF (hgtY lf X Y Wn l i) (hgtY lf X Y Wn l (i + 1)) (lenR (lpo l (i + 1)).1 (lpo l (i + 1)).2)] from rfl)
      have hev : (lnL l (n - 1))[i]'(by rw [lnL_length]; omega) = lenR (lpo l (i + 1)).1 (lpo l (i + 1)).2 := by
        rw [← hge]
        simp [List.getD_eq_getElem?_getD, show i < (lnL l (n - 1)).length by rw [lnL_length]; omega]
      rw [hev] at v1
      have hgr := gr_ok (a := hgtY lf X Y Wn l i) (b := hgtY lf X Y Wn l (i + 1)) (Hbd.out i (by omega)) (Hbd.out (i + 1) (by omega)) hln.1 hln.2.2
      have hab := bits_lt hgr.1 (.inr (.inl rfl))
      have hr1 := fun (w : World) => run_float_arith (P := Try.prog) w .sub 27 .f32 _ _ _ hgr.1
      have hr2 := fun (w : World) => run_float_arith (P := Try.prog) w .quo 27 .f32 _ _ _ hgr.2.2.1
      have KV : ∀ (w' : World) (j : Nat), j < n → Ext w6 w' → w'.cell? (adV.add j) = some (.float .f32 (hgtY lf X Y Wn l j)) := fun w' j hj h => by
        obtain ⟨ad', e, _, hcv⟩ := (HRv.out.ext h).at (k := j) (by simp [flt, vlL_length]; omega)
        injection e with e
        subst e
        have v9 := hcv j _ (flt_get (l := vlL lf X Y Wn l n) (by rw [vlL_length]; omega))
        rw [v9]
        have h8 := vlL_get lf X Y Wn l n j hj
        rw [← h8]
        simp [List.getD_eq_getElem?_getD, show j < (vlL lf X Y Wn l n).length by rw [vlL_length]; omega]
      have c0 : ∀ w', Ext w6 w' → w'.cell? (adV.add i) = some (.float .f32 (hgtY lf X Y Wn l i)) := fun w' h => KV w' i (by omega) h
      have c1 : ∀ w', Ext w6 w' → w'.cell? ⟨adV.block, adV.off + (i + 1), none⟩ = some (.float .f32 (hgtY lf X Y Wn l (i + 1))) := fun w' h => by rw [← add_pos adV (by omega : 0 < i + 1)]; exact KV w' (i + 1) (by omega) h
      generalize hgtY lf X Y Wn l i = h1 at *
      generalize hgtY lf X Y Wn l (i + 1) = h2 at *
      generalize lenR (lpo l (i + 1)).1 (lpo l (i + 1)).2 = ln at *
      obtain ⟨x, hxx⟩ : ∃ x, x = grF h1 h2 ln := ⟨_, rfl⟩
      rw [← hxx] at hr2 Hnx
      have Hlen := hidA (show (grL lf X Y Wn l i).length ≤ 65536 from by rw [grL_length]; omega)
      have i0 : (0 : Int) ≤ i := by omega
      have i1 : (i : Int) < ((n - 1 : Nat) : Int) := by omega
      have i2 : (i : Int) < n := by omega
      have i3 : (0 : Int) ≤ (i : Int) + 1 := by omega
      have i4 : (i : Int) + 1 < n := by omega
      have iw : IntKind.i64.wrap ((i : Int) + 1) = (i : Int) + 1 := IntWalk.i64_in _ ⟨by omega, by omega⟩
      have hxe : Ext wr (wr.drew.alloc (.cells #[.float .f32 x] 27)) := ((Ext.refl wr).drew).alloc _
      have hxa := hidA (hx.trans hxe)
      have hown2 := hidA (hO.ext hxe)
      have hnews : Hid (∀ j u, ([.float .f32 x] : List Value)[j]? = some u → (wr.drew.alloc (.cells #[.float .f32 x] 27)).cell? ((⟨wr.heap.size, 0, none⟩ : Addr).add j) = some u) := World.news_of_block (cs := #[.float .f32 x]) (t := 27) (fr := (0, 0)) (heap_alloc_new wr.drew _)
      have hone : Hid (∀ u ∈ ([.float .f32 x] : List Value), u.oneCell' = true) := by intro u hu; simp at hu; subst hu; rfl
      have hs9 := hidA (show w6.heap.size ≤ (wr.drew.alloc (.cells #[.float .f32 x] 27)).heap.size from hxa.out.size)
      have hsz1 := hidA (show (wr.drew.alloc (.cells #[.float .f32 x] 27)).heap.size = wr.heap.size + 1 from by rw [World.size_alloc]; rfl)
      have hmx2 := hidA (maxY Hlen.out).1
      have hmb := hidA (maxY Hlen.out).2
      clear hxx hcv hge hev hln hd8 m1 m2 hin hi hO hxe hgr KV
      go_upto_region 11 with fail
      clear v1
      refine wp_region_noPanic ?_
      refine wp_region_held_drew (S := fun w' => Ext w6 w') (by kernel_rfl) ?_ (fun hHeld => ?_)
      · (first | exact hx9 | (repeat (first | exact Ext.refl _ | assumption | refine Ext.setCell ?_ (by first | (simp; done) | (simp; omega)) _ | refine Ext.drewN ?_ _ | refine Ext.alloc ?_ _ | refine Ext.drew ?_ | refine Ext.trans ?_ (by assumption))))
      refine wpAnyH_take (i := 0) (oi := ?o1x0) (v := ?v1x0) ?hi1x0 (by kernel_rfl) ?hf1x0 ?hr1x0 (fun _ _ _ h => h) ?hy1x0 (by assumption) ?rest1x0
      case hi1x0 => (simp only [List.getElem?_toArray, List.getElem?_cons_zero]; exact rfl)
      case hf1x0 => kernel_rfl
      case hr1x0 => kernel_rfl
      case hy1x0 => (refine Or.inl ⟨by rfl, ?_⟩; intro w hSw; (try dsimp only at hSw); go_simp; try with_reducible rfl)
      simp only [put_mk, List.set_cons_succ, List.set_cons_zero]
      refine wpAnyH_take (i := 1) (oi := ?o1x1) (v := ?v1x1) ?hi1x1 (by kernel_rfl) ?hf1x1 ?hr1x1 (fun _ _ _ h => h) ?hy1x1 (by assumption) ?rest1x1
      case hi1x1 => (simp only [List.getElem?_toArray, List.getElem?_cons_succ, List.getElem?_cons_zero]; exact rfl)
      case hf1x1 => kernel_rfl
      case hr1x1 => kernel_rfl
      case hy1x1 => (refine Or.inl ⟨by rfl, ?_⟩; intro w hSw; (try dsimp only at hSw); go_simp; try with_reducible rfl)
      simp only [put_mk, List.set_cons_succ, List.set_cons_zero]
      refine wpAnyH_take (i := 2) (oi := ?o1x2) (v := ?v1x2) ?hi1x2 (by kernel_rfl) ?hf1x2 ?hr1x2 (fun _ _ _ h => h) ?hy1x2 (by assumption) ?rest1x2
      case hi1x2 => (simp only [List.getElem?_toArray, List.getElem?_cons_succ, List.getElem?_cons_zero]; exact rfl)
      case hf1x2 => kernel_rfl
      case hr1x2 => kernel_rfl
      case hy1x2 => (refine Or.inl ⟨by rfl, ?_⟩; intro w hSw; (try dsimp only at hSw); go_simp; try with_reducible rfl)
      simp only [put_mk, List.set_cons_succ, List.set_cons_zero]
      refine wpAnyH_take (i := 3) (oi := ?o1x3) (v := ?v1x3) ?hi1x3 (by kernel_rfl) ?hf1x3 ?hr1x3 (fun _ _ _ h => h) ?hy1x3 (by assumption) ?rest1x3
      case hi1x3 => (simp only [List.getElem?_toArray, List.getElem?_cons_succ, List.getElem?_cons_zero]; exact rfl)
      case hf1x3 => kernel_rfl
      case hr1x3 => kernel_rfl
      case hy1x3 => (refine Or.inl ⟨by rfl, ?_⟩; intro w hSw; (try dsimp only at hSw); go_simp; try with_reducible rfl)
      simp only [put_mk, List.set_cons_succ, List.set_cons_zero]
      refine wpAnyH_take (i := 4) (oi := ?o1x4) (v := ?v1x4) ?hi1x4 (by kernel_rfl) ?hf1x4 ?hr1x4 (fun _ _ _ h => h) ?hy1x4 (by assumption) ?rest1x4
      case hi1x4 => (simp only [List.getElem?_toArray, List.getElem?_cons_succ, List.getElem?_cons_zero]; exact rfl)
      case hf1x4 => kernel_rfl
      case hr1x4 => kernel_rfl
      case hy1x4 => (refine Or.inl ⟨by rfl, ?_⟩; intro w hSw; (try dsimp only at hSw); go_simp; try with_reducible rfl)
      simp only [put_mk, List.set_cons_succ, List.set_cons_zero]
      refine wpAnyH_take (i := 5) (oi := ?o1x5) (v := ?v1x5) ?hi1x5 (by kernel_rfl) ?hf1x5 ?hr1x5 (fun _ _ _ h => h) ?hy1x5 (by assumption) ?rest1x5
      case hi1x5 => (simp only [List.getElem?_toArray, List.getElem?_cons_succ, List.getElem?_cons_zero]; exact rfl)
      case hf1x5 => kernel_rfl
      case hr1x5 => kernel_rfl
      case hy1x5 => (refine Or.inl ⟨by rfl, ?_⟩; intro w hSw; (try dsimp only at hSw); go_simp; try with_reducible rfl)
      simp only [put_mk, List.set_cons_succ, List.set_cons_zero]
      refine wpAnyH_take (i := 6) (oi := ?o1x6) (v := ?v1x6) ?hi1x6 (by kernel_rfl) ?hf1x6 ?hr1x6 (fun _ _ _ h => h) ?hy1x6 (by assumption) ?rest1x6
      case hi1x6 => (simp only [List.getElem?_toArray, List.getElem?_cons_succ, List.getElem?_cons_zero]; exact rfl)
      case hf1x6 => kernel_rfl
      case hr1x6 => kernel_rfl
      case hy1x6 => (refine Or.inl ⟨by rfl, ?_⟩; intro w hSw; (try dsimp only at hSw); go_simp; try with_reducible rfl)
      simp only [put_mk, List.set_cons_succ, List.set_cons_zero]
      refine wpAnyH_take (i := 7) (oi := ?o1x7) (v := ?v1x7) ?hi1x7 (by kernel_rfl) ?hf1x7 ?hr1x7 (fun _ _ _ h => h) ?hy1x7 (by assumption) ?rest1x7
      case hi1x7 => (simp only [List.getElem?_toArray, List.getElem?_cons_succ, List.getElem?_cons_zero]; exact rfl)
      case hf1x7 => kernel_rfl
      case hr1x7 => kernel_rfl
      case hy1x7 => (refine Or.inl ⟨by rfl, ?_⟩; intro w hSw; (try dsimp only at hSw); go_simp; try with_reducible rfl)
      simp only [put_mk, List.set_cons_succ, List.set_cons_zero]
      refine wpAnyH_take (i := 8) (oi := ?o1x8) (v := ?v1x8) ?hi1x8 (by kernel_rfl) ?hf1x8 ?hr1x8 (fun _ _ _ h => h) ?hy1x8 (by assumption) ?rest1x8
      case hi1x8 => (simp only [List.getElem?_toArray, List.getElem?_cons_succ, List.getElem?_cons_zero]; exact rfl)
      case hf1x8 => kernel_rfl
      case hr1x8 => kernel_rfl
      case hy1x8 => (refine Or.inl ⟨by rfl, ?_⟩; intro w hSw; (try dsimp only at hSw); go_simp; try with_reducible rfl)
      simp only [put_mk, List.set_cons_succ, List.set_cons_zero]
      refine wpAnyH_take (i := 9) (oi := ?o1x9) (v := ?v1x9) ?hi1x9 (by kernel_rfl) ?hf1x9 ?hr1x9 (fun _ _ _ h => h) ?hy1x9 (by assumption) ?rest1x9
      case hi1x9 => (simp only [List.getElem?_toArray, List.getElem?_cons_succ, List.getElem?_cons_zero]; exact rfl)
      case hf1x9 => kernel_rfl
      case hr1x9 => kernel_rfl
      case hy1x9 => (refine Or.inl ⟨by rfl, ?_⟩; intro w hSw; (try dsimp only at hSw); go_simp; try with_reducible rfl)
      simp only [put_mk, List.set_cons_succ, List.set_cons_zero]
      refine wpAnyH_take (i := 10) (oi := ?o1x10) (v := ?v1x10) ?hi1x10 (by kernel_rfl) ?hf1x10 ?hr1x10 (fun _ _ _ h => h) ?hy1x10 (by assumption) ?rest1x10
      case hi1x10 => (simp only [List.getElem?_toArray, List.getElem?_cons_succ, List.getElem?_cons_zero]; exact rfl)
      case hf1x10 => kernel_rfl
      case hr1x10 => kernel_rfl
      case hy1x10 => (refine Or.inl ⟨by rfl, ?_⟩; intro w hSw; (try dsimp only at hSw); go_simp; try with_reducible rfl)
      simp only [put_mk, List.set_cons_succ, List.set_cons_zero]
      refine wpAnyH_take (i := 12) (oi := ?o1x12) (v := ?v1x12) ?hi1x12 (by kernel_rfl) ?hf1x12 ?hr1x12 (fun _ _ _ h => h) ?hy1x12 (by assumption) ?rest1x12
      case hi1x12 => (simp only [List.getElem?_toArray, List.getElem?_cons_succ, List.getElem?_cons_zero]; exact rfl)
      case hf1x12 => kernel_rfl
      case hr1x12 => kernel_rfl
      case hy1x12 => (refine Or.inl ⟨by rfl, ?_⟩; intro w hSw; (try dsimp only at hSw); go_simp; try with_reducible rfl)
      simp only [put_mk, List.set_cons_succ, List.set_cons_zero]
      refine wpAnyH_ready (rs := [11]) (by kernel_rfl) (by simp) ?_
      refine AllReadyH.cons (o := ?o1x11) ?hi1x11 (fun K hK => ?_) AllReadyH.nil
      case hi1x11 => (simp only [List.getElem?_toArray, List.getElem?_cons_succ, List.getElem?_cons_zero]; exact rfl)
      go_simp
      go_at_call 52
      refine ((HAb _ hab _).out).mono ?_
      rintro e wl ⟨rfl, hwl⟩
      subst wl
      refine hK.out _ _ ?_ (fun hHeld => ?_)
      · (first | exact hx9 | (repeat (first | exact Ext.refl _ | assumption | refine Ext.setCell ?_ (by first | (simp; done) | (simp; omega)) _ | refine Ext.drewN ?_ _ | refine Ext.alloc ?_ _ | refine Ext.drew ?_ | refine Ext.trans ?_ (by assumption))))
      clear hK K
      refine wpAnyH_take (i := 13) (oi := ?o1x13) (v := ?v1x13) ?hi1x13 (by kernel_rfl) ?hf1x13 ?hr1x13 (fun _ _ _ h => h) ?hy1x13 (by assumption) ?rest1x13
      case hi1x13 => (simp only [List.getElem?_toArray, List.getElem?_cons_succ, List.getElem?_cons_zero]; exact rfl)
      case hf1x13 => kernel_rfl
      case hr1x13 => kernel_rfl
      case hy1x13 => (refine Or.inl ⟨by rfl, ?_⟩; intro w hSw; (try dsimp only at hSw); go_simp; try with_reducible rfl)
      simp only [put_mk, List.set_cons_succ, List.set_cons_zero]
      refine wpAnyH_ready (rs := [14]) (by kernel_rfl) (by simp) ?_
      refine AllReadyH.cons (o := ?o1x14) ?hi1x14 (fun K hK => ?_) AllReadyH.nil
      case hi1x14 => (simp only [List.getElem?_toArray, List.getElem?_cons_succ, List.getElem?_cons_zero]; exact rfl)
      go_simp
      refine hK.out _ _ ?_ (fun hHeld => ?_)
      · (first | exact hx9 | (repeat (first | exact Ext.refl _ | assumption | refine Ext.setCell ?_ (by first | (simp; done) | (simp; omega)) _ | refine Ext.drewN ?_ _ | refine Ext.alloc ?_ _ | refine Ext.drew ?_ | refine Ext.trans ?_ (by assumption))))
      clear hK K
      refine wpAnyH_ready (rs := [15]) (by kernel_rfl) (by simp) ?_
      refine AllReadyH.cons (o := ?o1x15) ?hi1x15 (fun K hK => ?_) AllReadyH.nil
      case hi1x15 => (simp only [List.getElem?_toArray, List.getElem?_cons_succ, List.getElem?_cons_zero]; exact rfl)
      refine step_append_lies _ (by rfl) (.tmp 77) (.tmp 91) 24 (by rfl) w6.heap.size 27 ti (.float .f32 0) 1 4 Try.underlying24 hi0 hz0 hz1 hz2 (by rfl) (by decide) _ _ _ (by rfl) hown2.out ⟨wr.heap.size, 0, none⟩ 1 1 [.float .f32 x] (by rfl) (by rfl) hnews.out hone.out (by omega) hmx2.out hmb.out hs9.out (wr.heap.size + 1) hsz1.out ?_
      intro gg cap9 w9 hown9 hgrow9 hat hlt
      have hx9 : Ext w6 w9 := hxa.out.grown hgrow9 (fun b hb => (World.ownsRow.lt hown2.out b hb).1)
      refine hK.out _ _ ?_ (fun hHeld => ?_)
      · (first | exact hx9 | (repeat (first | exact Ext.refl _ | assumption | refine Ext.setCell ?_ (by first | (simp; done) | (simp; omega)) _ | refine Ext.drewN ?_ _ | refine Ext.alloc ?_ _ | refine Ext.drew ?_ | refine Ext.trans ?_ (by assumption))))
      clear hK K
      simp only [put_mk, List.set_cons_succ, List.set_cons_zero]
      refine wpAnyH_take (i := 16) (oi := ?o1x16) (v := ?v1x16) ?hi1x16 (by kernel_rfl) ?hf1x16 ?hr1x16 (fun _ _ _ h => h) ?hy1x16 (by assumption) ?rest1x16
      case hi1x16 => (simp only [List.getElem?_toArray, List.getElem?_cons_succ, List.getElem?_cons_zero]; exact rfl)
      case hf1x16 => kernel_rfl
      case hr1x16 => kernel_rfl
      case hy1x16 => (refine Or.inl ⟨by rfl, ?_⟩; intro w hSw; (try dsimp only at hSw); go_simp; try with_reducible rfl)
      simp only [put_mk, List.set_cons_succ, List.set_cons_zero]
      refine wpAnyH_done (by kernel_rfl) ?_ _
      refine NoPanic.normal ?_
      have HO9 := hidA (show OwnFl w9 w6.heap.size (.slice (some ⟨gg, 0, none⟩) ((grL lf X Y Wn l i).length + 1) cap9) (grL lf X Y Wn l (i + 1)) from by
        rw [Hnx.out]
        exact OwnFl.push hown9)
      have Hx9 := hidA hx9
      clear Hnx Hlen hxa hown2 hnews hone hs9 hsz1 hmx2 hmb hown9 hgrow9 hat hlt hx9 hHeld c0 c1 hx iw hr1 hr2 hab
      go_wp2
      go_roundw
      case rel => exact ⟨i + 1, Hin.out, (by first | rfl | go_num), HO9.out, Hx9.out⟩
      case measure => exact nxt_y Hin.out
    · obtain rfl : i = n - 1 := by omega
      obtain ⟨A2, cap2, rfl, hR2⟩ := hO.any
      have HNg := hidA (numberError_any A2 (n - 1) cap2 (grL lf X Y Wn l (n - 1)) wr (grL_length lf X Y Wn l (n - 1)) hR2 (by omega))
      have hxw := Hxe.out.trans hx
      have HkW := hidA (HkF.out.ext hx)
      have HEg : ∀ (A3 : Option Addr) (cap3 : Nat), Rd wr A3 (flt (grL lf X Y Wn l (n - 1))) → Hid (Calls Try.prog 46 #[.slice A3 (n - 1) cap3, .slice A2 (n - 1) cap2] wr fun e w' => e = .returned (.bool true) ∧ Ext wr w') := fun A3 cap3 h => hidA (eqFlo_same A3 A2 (n - 1) cap3 cap2 (grL lf X Y Wn l (n - 1)) (grL lf X Y Wn l (n - 1)) wr (grL_length lf X Y Wn l (n - 1)) (grL_length lf X Y Wn l (n - 1)) h hR2 (by omega) (fun k h1 h2 => ord_eq_self (Hfin.out (n - 1) (Nat.le_refl _) _ (List.getElem_mem h1))))
      have hE2 : numE (grL lf X Y Wn l (n - 1)) = 0 ∨ numE (grL lf X Y Wn l (n - 1)) = 3 := numE_fin (l := grL lf X Y Wn l (n - 1)) (fun b hb => Hfin.out (n - 1) (Nat.le_refl _) b hb)
      rw [grL_length]
      have Hx4w := hidA (Hx46.out.trans hx)
      clear hO hR2 hx hi hin
      generalize numE (grL lf X Y Wn l (n - 1)) = eq at *
      obtain rfl := Hg1.out
      rcases hE2 with rfl | rfl
      · obtain ⟨A3, cap3, rfl, hR3⟩ := Hg4.out rfl
        have HEq := HEg A3 cap3 (hR3.ext Hx4w.out)
        clear Hg1 Hg2 Hg4 HEg hR3
        go_upto_region 18 with (first | (go_at_call 32; refine (HNg.out).mono ?_; rintro e w11 ⟨rfl, hw11⟩; subst hw11) | (go_at_call 46; refine (HEq.out).mono ?_; rintro e w12 ⟨rfl, hx12⟩))
        have hxz := hxw.trans hx12
        have kFz := HkW.out.ext hx12
        have Hxz := hidA hxz
        have Hb5 := hidA (fun h => (Hb4.out h).imp fun A2 h => h.imp fun cap h => And.intro h.1 (h.2.ext (Hx4w.out.trans hx12)))
        clear Hb4
        clear hxw HkW hx12 HNg HEq
        generalize hwq : w12 = wz at *
        clear hwq
        have hl' : (FloatKind.f32.format.order most 0 == some .lt) = false := hltM
        have hg' : (FloatKind.f32.format.order most 1149239296 == some .gt) = false := hgtM
        have HSx := fun (B : Option Addr) (w : World) h => HS3 false B w (by rw [hltM, hgtM]; simp) h
        clear hltM hgtM
        have x0 := fun o o' => ((kFz.alloc o).alloc o').cell 0
        have x1 := fun o o' => ((kFz.alloc o).alloc o').cell 1
        have x2 := fun o o' => ((kFz.alloc o).alloc o').cell 2
        have x3 := fun o o' => ((kFz.alloc o).alloc o').cell 3
        have x4 := fun o o' => ((kFz.alloc o).alloc o').cell 4
        go_upto_region 22 with (first | (go_at_call 35; refine ((HWi _ _ _ _).out).mono ?_; rintro e w21 ⟨rfl, hw21⟩; subst hw21) | (go_at_call 19; refine ((HWh _ _ _).out).mono ?_; rintro e w22 ⟨rfl, hw22⟩; subst hw22) | (go_at_call 32; refine ((HNe _ _ (Bk.new' rfl)).out).mono ?_; rintro e w23 ⟨rfl, hw23⟩; subst hw23) | (go_at_call 17; refine ((HSx _ _ (Rd.new (by first | rfl | simp) (by first | rfl | simp))).out).mono ?_; rintro e w24 ⟨rfl, hw24⟩; subst hw24) | (go_at_call 53; refine ((HBo _ (by repeat (first | exact Ext.refl _ | assumption | refine Ext.setCell ?_ (by first | (simp; done) | (simp; omega)) _ | refine Ext.drewN ?_ _ | refine Ext.alloc ?_ _ | refine Ext.drew ?_ | refine Ext.trans ?_ (by assumption)))).out).mono ?_; rintro e w31 ⟨g9, cap9, rfl, hg9, hcap9, hFX⟩))
        have hx31 := hFX.x
        have hRb := hFX.rd
        rw [Hbv.out] at hRb
        have hzb : Ext wz w31 := (by repeat (first | exact Ext.refl _ | assumption | refine Ext.setCell ?_ (by first | (simp; done) | (simp; omega)) _ | refine Ext.drewN ?_ _ | refine Ext.alloc ?_ _ | refine Ext.drew ?_ | refine Ext.trans ?_ (by assumption)))
        have HRb := hidA hRb
        have Hzb := hidA hzb
        have hlb : bv.length = n := by rw [← Hbv.out]; simp
        have HNb := hidA (numberError_any (some ⟨g9, 0, none⟩) n cap9 bv w31 hlb hRb (by omega))
        have HBi := fun (A4 : Option Addr) (cap4 : Nat) (h : Rd w31 A4 (flt bv)) => hidA (bits_same A4 (some ⟨g9, 0, none⟩) n cap4 cap9 bv w31 hlb h hRb (by omega))
        have hEb := numE_fin Hbf.out
        clear x0 x1 x2 x3 x4 kFz hxz hFX hx31 hRb hzb hg9 hcap9 hlb HBo HSx
        generalize numE bv = eq2 at *
        obtain rfl := Hb1.out
        rcases hEb with rfl | rfl
        · obtain ⟨A4, cap4, rfl, hR4⟩ := Hb5.out rfl
          have HBj := HBi A4 cap4 (hR4.ext Hzb.out)
          clear Hb1 Hb2 Hb5 HBi hR4
          go_wp2_with (first | (go_at_call 32; refine (HNb.out).mono ?_; rintro e w41 ⟨rfl, hw41⟩; subst hw41) | (go_at_call 30; refine (HBj.out).mono ?_; rintro e w42 ⟨rfl, hw42⟩; subst hw42))
          go_ret
          exact ⟨by first | rfl | simp, Hxz.out.trans Hzb.out⟩
        · have hbv9 := Hb2.out (by decide)
          subst hbv9
          clear Hb1 Hb2 Hb5 HBi
          go_wp2_with (go_at_call 32; refine (HNb.out).mono ?_; rintro e w41 ⟨rfl, hw41⟩; subst hw41)
          go_ret
          exact ⟨by first | rfl | simp, Hxz.out.trans Hzb.out⟩
      · have hgv := Hg2.out (by decide)
        subst hgv
        clear Hg1 Hg2 Hg4 HEg
        go_upto_region 18 with (go_at_call 32; refine (HNg.out).mono ?_; rintro e w11 ⟨rfl, hw11⟩; subst hw11)
        have hxz := hxw
        have kFz := HkW.out
        have Hxz := hidA hxz
        have Hb5 := hidA (fun h => (Hb4.out h).imp fun A2 h => h.imp fun cap h => And.intro h.1 (h.2.ext Hx4w.out))
        clear Hb4
        clear hxw HkW HNg
        generalize hwq : wr = wz at *
        clear hwq
        have hl' : (FloatKind.f32.format.order most 0 == some .lt) = false := hltM
        have hg' : (FloatKind.f32.format.order most 1149239296 == some .gt) = false := hgtM
        have HSx := fun (B : Option Addr) (w : World) h => HS3 false B w (by rw [hltM, hgtM]; simp) h
        clear hltM hgtM
        have x0 := fun o o' => ((kFz.alloc o).alloc o').cell 0
        have x1 := fun o o' => ((kFz.alloc o).alloc o').cell 1
        have x2 := fun o o' => ((kFz.alloc o).alloc o').cell 2
        have x3 := fun o o' => ((kFz.alloc o).alloc o').cell 3
        have x4 := fun o o' => ((kFz.alloc o).alloc o').cell 4
        go_upto_region 22 with (first | (go_at_call 35; refine ((HWi _ _ _ _).out).mono ?_; rintro e w21 ⟨rfl, hw21⟩; subst hw21) | (go_at_call 19; refine ((HWh _ _ _).out).mono ?_; rintro e w22 ⟨rfl, hw22⟩; subst hw22) | (go_at_call 32; refine ((HNe _ _ (Bk.new' rfl)).out).mono ?_; rintro e w23 ⟨rfl, hw23⟩; subst hw23) | (go_at_call 17; refine ((HSx _ _ (Rd.new (by first | rfl | simp) (by first | rfl | simp))).out).mono ?_; rintro e w24 ⟨rfl, hw24⟩; subst hw24) | (go_at_call 53; refine ((HBo _ (by repeat (first | exact Ext.refl _ | assumption | refine Ext.setCell ?_ (by first | (simp; done) | (simp; omega)) _ | refine Ext.drewN ?_ _ | refine Ext.alloc ?_ _ | refine Ext.drew ?_ | refine Ext.trans ?_ (by assumption)))).out).mono ?_; rintro e w31 ⟨g9, cap9, rfl, hg9, hcap9, hFX⟩))
        have hx31 := hFX.x
        have hRb := hFX.rd
        rw [Hbv.out] at hRb
        have hzb : Ext wz w31 := (by repeat (first | exact Ext.refl _ | assumption | refine Ext.setCell ?_ (by first | (simp; done) | (simp; omega)) _ | refine Ext.drewN ?_ _ | refine Ext.alloc ?_ _ | refine Ext.drew ?_ | refine Ext.trans ?_ (by assumption)))
        have HRb := hidA hRb
        have Hzb := hidA hzb
        have hlb : bv.length = n := by rw [← Hbv.out]; simp
        have HNb := hidA (numberError_any (some ⟨g9, 0, none⟩) n cap9 bv w31 hlb hRb (by omega))
        have HBi := fun (A4 : Option Addr) (cap4 : Nat) (h : Rd w31 A4 (flt bv)) => hidA (bits_same A4 (some ⟨g9, 0, none⟩) n cap4 cap9 bv w31 hlb h hRb (by omega))
        have hEb := numE_fin Hbf.out
        clear x0 x1 x2 x3 x4 kFz hxz hFX hx31 hRb hzb hg9 hcap9 hlb HBo HSx
        generalize numE bv = eq2 at *
        obtain rfl := Hb1.out
        rcases hEb with rfl | rfl
        · obtain ⟨A4, cap4, rfl, hR4⟩ := Hb5.out rfl
          have HBj := HBi A4 cap4 (hR4.ext Hzb.out)
          clear Hb1 Hb2 Hb5 HBi hR4
          go_wp2_with (first | (go_at_call 32; refine (HNb.out).mono ?_; rintro e w41 ⟨rfl, hw41⟩; subst hw41) | (go_at_call 30; refine (HBj.out).mono ?_; rintro e w42 ⟨rfl, hw42⟩; subst hw42))
          go_ret
          exact ⟨by first | rfl | simp, Hxz.out.trans Hzb.out⟩
        · have hbv9 := Hb2.out (by decide)
          subst hbv9
          clear Hb1 Hb2 Hb5 HBi
          go_wp2_with (go_at_call 32; refine (HNb.out).mono ?_; rintro e w41 ⟨rfl, hw41⟩; subst hw41)
          go_ret
          exact ⟨by first | rfl | simp, Hxz.out.trans Hzb.out⟩
theorem beds_walk (X Y W H : Int) (A : Option Addr) (N c : Nat) (lf : List Nat) (B : Option Addr) (q d : Nat) (l : List (Int × Int)) (how : Int) (most : Nat) (w : World) (hn : lf.length = N) (hV : Rd w A (flt lf)) (hb : N ≤ 140737488351232) (hq : l.length = q) (hP : Rd w B (ptv l)) (hqd : q ≤ d) (hqb : q ≤ 140737488351232) :
    Calls Try.prog 11 #[.agg #[.int .i64 X, .int .i64 Y, .int .i64 W, .int .i64 H, .slice A N c], .slice B q d, .int .i64 how, .float .f32 most] w fun e w' => e = .returned (.bool true) ∧ Ext w w' := by
  by_cases hE : (if fieldE X Y W H lf ≠ 0 then fieldE X Y W H lf else wayE (outP X Y W H) l) = 0
  · have h0 : fieldE X Y W H lf = 0 := by
      split at hE
      · rename_i h; exact absurd hE h
      · rename_i h; simpa using h
    rw [if_neg (by simpa using h0)] at hE
    obtain ⟨f1, f2, f3⟩ := field_zero h0
    obtain ⟨Wn, Hn, rfl, rfl, hg⟩ := Reg.of_zero f1
    have hlen : lf.length = Wn * Hn := by
      have h9 : (lf.length : Int) = ((Wn * Hn : Nat) : Int) := by rw [f2, Int.natCast_mul]
      omega
    have hN : N = Wn * Hn := by rw [← hn]; exact hlen
    have hh : ∀ j, j < N → Bd 20 (lf.getD j 0) := fun j hj => by
      have hj2 : j < lf.length := by omega
      rw [show lf.getD j 0 = lf[j] by simp [List.getD_eq_getElem?_getD, hj2]]
      exact hgt_bd ((numE_zero f3).2 _ (List.getElem_mem hj2))
    by_cases hb2 : bedE how most = 0
    · exact beds_good X Y Wn Hn A N c lf B q d l how most w hg hN hn hh hV hq hP hqd h0 hE hb2
    · exact beds_err X Y Wn Hn A N c lf B q d l how most w hg hN hn hh hV hq hP hqd h0 hE hb2
  · exact beds_bad X Y W H A N c lf B q d l how most w hn hV hb hq hP hqb hE
end Go.Proofs.Ytpgdinpckolfpaa
