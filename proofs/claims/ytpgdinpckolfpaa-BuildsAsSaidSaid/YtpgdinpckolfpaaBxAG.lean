/- BuildsAsSaid: for every input the call returns true, and each argument reads afterwards as it read before. No condition is asked. -/
import Derived.Test.YtpgdinpckolfpaaBxAF
import Derived.Test.YtpgdinpckolfpaaBxAE
import Derived.Test.YtpgdinpckolfpaaRdU
import Derived.Test.YtpgdinpckolfpaaBxAC
import Derived.Test.YtpgdinpckolfpaaRows
import Derived.Test.YtpgdinpckolfpaaBaseC
import Derived.WalkKit
import Derived.ProofKit
import Derived.OpenShut
import Derived.SizedLaws
import Derived.Carry
import Derived.Lib.SmallJoins
import Derived.Deep.Slices
import Derived.Test.YtpgdinpckolfpaaRdM
namespace Go.Proofs.Ytpgdinpckolfpaa
open Go.RowKit
attribute [local go_sem ↓] Go.wp_at_zero Go.wp_at_succ
attribute [local go_sem] run_store_float

def whenI (b : Bool) (k : Int) : Int := if b then k else 0
def withI (n lo hi : Int) : Bool := decide (lo ≤ n) && decide (n ≤ hi)
theorem withI_false {n lo hi : Int} : withI n lo hi = false ↔ n < lo ∨ hi < n := by
  unfold withI
  rw [Bool.and_eq_false_iff]
  simp
theorem first_at (a : Int) (l : List Int) : firstE (a :: l) = if a ≠ 0 then a else firstE l := by
  by_cases h : a = 0
  · subst h
    rw [if_neg (by decide)]
    show (if (0 : Int) = 0 then firstE l else 0) = _
    rw [if_pos rfl]
  · rw [if_pos h]
    show (if a = 0 then firstE l else a) = _
    rw [if_neg h]
/-- both programs find one error -/
theorem bld_want (X Y W H : Int) (lf : List Nat) (l : List (Int × Int)) (lb : List Nat) (wide soft : Int) (q m : Nat) (b5 : Bool) (hq : l.length = q) (hm : lb.length = m) (h5 : b5 = rngB wide soft) :
    firstE [fieldE X Y W H lf, wayE (outG X Y W H) l, whenI ((m : Int) != (q : Int)) 2, numE lb, whenI b5 3] = bldE X Y W H lf l lb wide soft := by
  unfold bldE fwE
  rw [hq, hm, h5]
  rw [first_at, first_at, first_at, first_at, first_at]
  by_cases h : fieldE X Y W H lf = 0
  · obtain ⟨f1, _, _⟩ := field_zero h
    obtain ⟨Wn, Hn, rfl, rfl, hg⟩ := Reg.of_zero f1
    rw [if_neg (show ¬ fieldE X Y Wn Hn lf ≠ 0 by simpa using h), outG_P hg]
    rw [if_neg (show ¬ fieldE X Y Wn Hn lf ≠ 0 by simpa using h)]
    by_cases h2 : wayE (outP X Y Wn Hn) l = 0
    · rw [if_neg (show ¬ wayE (outP X Y Wn Hn) l ≠ 0 by simpa using h2)]
      rw [if_neg (show ¬ wayE (outP X Y Wn Hn) l ≠ 0 by simpa using h2)]
      by_cases h3 : m = q
      · have e : ((m : Int) != (q : Int)) = false := by simp [h3]
        rw [e, if_neg (show ¬ whenI false 2 ≠ 0 by decide)]
        rw [if_neg (show ¬ m ≠ q by simpa using h3)]
        by_cases h4 : numE lb = 0
        · rw [if_neg (show ¬ numE lb ≠ 0 by simpa using h4)]
          rw [if_neg (show ¬ numE lb ≠ 0 by simpa using h4)]
          cases rngB wide soft <;> decide
        · rw [if_pos h4, if_pos h4]
      · have e : ((m : Int) != (q : Int)) = true := by simpa using fun e : (m : Int) = q => h3 (by omega)
        rw [e, if_pos h3]
        rw [if_pos (show whenI true 2 ≠ 0 by decide)]
        rfl
    · rw [if_pos h2, if_pos h2]
  · rw [if_pos h]
    rw [if_pos h]
    rw [if_pos h]
theorem rng_a {wide soft : Int} (h : withI wide 0 20 = false) : true = rngB wide soft := by
  unfold rngB
  rw [withI_false] at h
  exact (decide_eq_true (by omega)).symm
theorem rng_b {wide soft : Int} (h : withI wide 0 20 = true) : (!withI soft 1 20) = rngB wide soft := by
  have h1 : ¬ (wide < 0 ∨ 20 < wide) := fun h9 => by rw [withI_false.2 h9] at h; cases h
  unfold rngB
  cases hs : withI soft 1 20
  · rw [withI_false] at hs
    exact (decide_eq_true (by omega)).symm
  · have h2 : ¬ (soft < 1 ∨ 20 < soft) := fun h9 => by rw [withI_false.2 h9] at hs; cases hs
    exact (decide_eq_false (by omega)).symm
set_option maxRecDepth 100000 in
set_option maxHeartbeats 6400000 in
theorem builds_bad (X Y W H : Int) (A : Option Addr) (N c : Nat) (lf : List Nat) (B : Option Addr) (q d : Nat) (l : List (Int × Int)) (C : Option Addr) (m cb : Nat) (lb : List Nat) (wide soft : Int) (w : World) (hn : lf.length = N) (hV : Rd w A (flt lf)) (hb : N ≤ 140737488351232) (hq : l.length = q) (hP : Rd w B (ptv l)) (hqb : q ≤ 140737488351232) (hm : lb.length = m) (hB : Rd w C (flt lb)) (hmb : m ≤ 140737488351232) (hE : bldE X Y W H lf l lb wide soft ≠ 0) :
    Calls Try.prog 12 #[.agg #[.int .i64 X, .int .i64 Y, .int .i64 W, .int .i64 H, .slice A N c], .slice B q d, .slice C m cb, .int .i64 wide, .int .i64 soft] w fun e w' => e = .returned (.bool true) ∧ Ext w w' := by
  have HBd := fun (w' : World) (h : Ext w w') => hidA (Build_bad X Y W H A N c lf B q d l C m cb lb wide soft w' hn (hV.ext h) hb hq (hP.ext h) hm (hB.ext h) hmb hE)
  have HFi := fun (w' : World) (h : Ext w w') => hidA (fieldError_any X Y W H A N c lf w' hn (hV.ext h) hb)
  have HWe := fun (hf : Nat) (w' : World) (h : Ext w w') (kF : Bk w' hf 26 #[.int .i64 X, .int .i64 Y, .int .i64 W, .int .i64 H, .slice A N c]) => hidA (WayErrorG_any X Y W H A N c hf B q d l w' kF hq (hP.ext h) hqb)
  have HNb := fun (w' : World) (h : Ext w w') => hidA (numberError_any C m cb lb w' hm (hB.ext h) hmb)
  have HZ := fun (w : World) => hidA (empty_zero w)
  have HL := fun (w : World) => hidA (leads_any w)
  have HWh : ∀ (b : Bool) (k : Int) (w : World), Hid (Calls Try.prog 19 #[.bool b, .int .i64 k] w fun e w' => e = .returned (.int .i64 (whenI b k)) ∧ w = w') := fun b k w => hidA (when_any b k w)
  have HWi : ∀ (a b c : Int) (w : World), Hid (Calls Try.prog 35 #[.int .i64 a, .int .i64 b, .int .i64 c] w fun e w' => e = .returned (.bool (withI a b c)) ∧ w = w') := fun a b c w => hidA (within_any a b c w)
  have HS5 : ∀ (b5 : Bool), b5 = rngB wide soft → ∀ (B : Option Addr) (w : World), Rd w B [.int .i64 (fieldE X Y W H lf), .int .i64 (wayE (outG X Y W H) l), .int .i64 (whenI ((m : Int) != (q : Int)) 2), .int .i64 (numE lb), .int .i64 (whenI b5 3)] → Hid (Calls Try.prog 17 #[.slice B 5 5] w fun e w' => e = .returned (.int .i64 (bldE X Y W H lf l lb wide soft)) ∧ w = w') := fun b5 h5 B w h => by
    have h9 := first_any B 5 5 [fieldE X Y W H lf, wayE (outG X Y W H) l, whenI ((m : Int) != (q : Int)) 2, numE lb, whenI b5 3] w rfl h (by omega)
    rw [bld_want X Y W H lf l lb wide soft q m b5 hq hm h5] at h9
    exact hidA h9
  generalize bldE X Y W H lf l lb wide soft = E at *
  generalize fieldE X Y W H lf = fe at *
  generalize wayE (outG X Y W H) l = we at *
  generalize numE lb = ne at *
  have hne : (E != 0) = true := by simpa using hE
  clear hn hV hb hq hP hqb hm hB hmb hE
  go_enter Try.func12, Try.ntmps12
  go_upto_region 1 with fail
  have kF : Bk (w.alloc (.cells #[.int .i64 X, .int .i64 Y, .int .i64 W, .int .i64 H, .slice A N c] 26)) w.heap.size 26 #[.int .i64 X, .int .i64 Y, .int .i64 W, .int .i64 H, .slice A N c] := Bk.new' rfl
  have hx0 := (Ext.refl w).alloc (.cells #[.int .i64 X, .int .i64 Y, .int .i64 W, .int .i64 H, .slice A N c] 26)
  generalize w.alloc (.cells #[.int .i64 X, .int .i64 Y, .int .i64 W, .int .i64 H, .slice A N c] 26) = w0 at *
  generalize w.heap.size = hf at *
  have f0 := kF.cell 0
  have f1 := kF.cell 1
  have f2 := kF.cell 2
  have f3 := kF.cell 3
  have f4 := kF.cell 4
  go_upto_region 2 with (go_at_call 54; refine ((HBd _ hx0).out).mono ?_; rintro e w1 ⟨rfl, hx1⟩)
  have kO : Bk (w1.alloc (.cells #[.int .i64 0, .int .i64 0, .int .i64 0, .int .i64 0, .slice none 0 0] 26)) w1.heap.size 26 #[.int .i64 0, .int .i64 0, .int .i64 0, .int .i64 0, .slice none 0 0] := Bk.new' rfl
  have kF1 := (kF.ext hx1).alloc (.cells #[.int .i64 0, .int .i64 0, .int .i64 0, .int .i64 0, .slice none 0 0] 26)
  have hxa := (hx0.trans hx1).alloc (.cells #[.int .i64 0, .int .i64 0, .int .i64 0, .int .i64 0, .slice none 0 0] 26)
  clear f0 f1 f2 f3 f4 kF hx0 hx1 HBd
  generalize w1.alloc (.cells #[.int .i64 0, .int .i64 0, .int .i64 0, .int .i64 0, .slice none 0 0] 26) = w2 at *
  generalize w1.heap.size = ho at *
  have f0 := kF1.cell 0
  have f1 := kF1.cell 1
  have f2 := kF1.cell 2
  have f3 := kF1.cell 3
  have f4 := kF1.cell 4
  cases hwa : withI wide 0 20
  · have hwn : (!withI wide 0 20) = true := by rw [hwa]; rfl
    have HSx := HS5 true (rng_a hwa)
    clear HS5
    go_wp2_with (first | (go_at_call 49; refine ((HFi _ hxa).out).mono ?_; rintro e w3 ⟨rfl, hx3⟩) | (go_at_call 39; refine ((HWe _ _ (hxa.trans hx3) (kF1.ext hx3)).out).mono ?_; rintro e w5 ⟨rfl, hx5⟩) | (go_at_call 15; refine ((HL _).out).mono ?_; rintro e w4 ⟨rfl, hx4⟩; have kO4 := kO.ext (show Ext w2 w4 from (by repeat (first | exact Ext.refl _ | assumption | refine Ext.setCell ?_ (by first | (simp; done) | (simp; omega)) _ | refine Ext.drewN ?_ _ | refine Ext.alloc ?_ _ | refine Ext.drew ?_ | refine Ext.trans ?_ (by assumption)))); have z0 := kO4.cell 0; have z1 := kO4.cell 1; have z2 := kO4.cell 2; have z3 := kO4.cell 3; have z4 := kO4.cell 4) | (go_at_call 55; refine ((HZ _).out).mono ?_; rintro e w9 ⟨rfl, hx9⟩) | (go_at_call 35; refine ((HWi _ _ _ _).out).mono ?_; rintro e w7 ⟨rfl, hw7⟩; subst hw7) | (go_at_call 19; refine ((HWh _ _ _).out).mono ?_; rintro e w7 ⟨rfl, hw7⟩; subst hw7) | (go_at_call 32; refine ((HNb _ (by repeat (first | exact Ext.refl _ | assumption | refine Ext.setCell ?_ (by first | (simp; done) | (simp; omega)) _ | refine Ext.drewN ?_ _ | refine Ext.alloc ?_ _ | refine Ext.drew ?_ | refine Ext.trans ?_ (by assumption)))).out).mono ?_; rintro e w7 ⟨rfl, hw7⟩; subst hw7) | (go_at_call 15; refine ((HL _).out).mono ?_; rintro e w4 ⟨rfl, hx4⟩) | (go_at_call 17; refine ((HSx _ _ (Rd.new (by first | rfl | simp) (by first | rfl | simp))).out).mono ?_; rintro e w8 ⟨rfl, hw8⟩; subst hw8))
    go_ret
    exact ⟨by first | rfl | simp, (by repeat (first | exact Ext.refl _ | assumption | refine Ext.setCell ?_ (by first | (simp; done) | (simp; omega)) _ | refine Ext.drewN ?_ _ | refine Ext.alloc ?_ _ | refine Ext.drew ?_ | refine Ext.trans ?_ (by assumption)))⟩
  · have hwn : (!withI wide 0 20) = false := by rw [hwa]; rfl
    have HSx := HS5 (!withI soft 1 20) (rng_b hwa)
    clear HS5
    go_wp2_with (first | (go_at_call 49; refine ((HFi _ hxa).out).mono ?_; rintro e w3 ⟨rfl, hx3⟩) | (go_at_call 39; refine ((HWe _ _ (hxa.trans hx3) (kF1.ext hx3)).out).mono ?_; rintro e w5 ⟨rfl, hx5⟩) | (go_at_call 15; refine ((HL _).out).mono ?_; rintro e w4 ⟨rfl, hx4⟩; have kO4 := kO.ext (show Ext w2 w4 from (by repeat (first | exact Ext.refl _ | assumption | refine Ext.setCell ?_ (by first | (simp; done) | (simp; omega)) _ | refine Ext.drewN ?_ _ | refine Ext.alloc ?_ _ | refine Ext.drew ?_ | refine Ext.trans ?_ (by assumption)))); have z0 := kO4.cell 0; have z1 := kO4.cell 1; have z2 := kO4.cell 2; have z3 := kO4.cell 3; have z4 := kO4.cell 4) | (go_at_call 55; refine ((HZ _).out).mono ?_; rintro e w9 ⟨rfl, hx9⟩) | (go_at_call 35; refine ((HWi _ _ _ _).out).mono ?_; rintro e w7 ⟨rfl, hw7⟩; subst hw7) | (go_at_call 19; refine ((HWh _ _ _).out).mono ?_; rintro e w7 ⟨rfl, hw7⟩; subst hw7) | (go_at_call 32; refine ((HNb _ (by repeat (first | exact Ext.refl _ | assumption | refine Ext.setCell ?_ (by first | (simp; done) | (simp; omega)) _ | refine Ext.drewN ?_ _ | refine Ext.alloc ?_ _ | refine Ext.drew ?_ | refine Ext.trans ?_ (by assumption)))).out).mono ?_; rintro e w7 ⟨rfl, hw7⟩; subst hw7) | (go_at_call 15; refine ((HL _).out).mono ?_; rintro e w4 ⟨rfl, hx4⟩) | (go_at_call 17; refine ((HSx _ _ (Rd.new (by first | rfl | simp) (by first | rfl | simp))).out).mono ?_; rintro e w8 ⟨rfl, hw8⟩; subst hw8))
    go_ret
    exact ⟨by first | rfl | simp, (by repeat (first | exact Ext.refl _ | assumption | refine Ext.setCell ?_ (by first | (simp; done) | (simp; omega)) _ | refine Ext.drewN ?_ _ | refine Ext.alloc ?_ _ | refine Ext.drew ?_ | refine Ext.trans ?_ (by assumption)))⟩
end Go.Proofs.Ytpgdinpckolfpaa

namespace Go.Proofs.Ytpgdinpckolfpaa
open Go.RowKit
attribute [local go_sem ↓] Go.wp_at_zero Go.wp_at_succ
attribute [local go_sem] run_store_float

/-- the built heights -/
def bvA (X Y : Int) (Wn : Nat) (l : List (Int × Int)) (n wide soft : Nat) (lb lf : List Nat) (k : Nat) : Nat := valW wide soft (fun j => lb.getD j 0) (lf.getD k 0) (rfS (dsW X Y Wn l k) n)
theorem BldPost.two {X Y : Int} {Wn Hn N : Nat} {v : List Nat} {w : World} {e : Ending} {w' : World} (h : BldPost X Y Wn Hn N v w e w') :
    ∃ a b c1 dd vA vn vc ec, e = .returned (.tuple #[.agg #[.int .i64 a, .int .i64 b, .int .i64 c1, .int .i64 dd, .slice vA vn vc], .int .i64 ec]) ∧ Ext w w' ∧ TwoR X Y Wn Hn N v w' a b c1 dd vA vn vc ec := by
  obtain ⟨g, cap, hr, hx, h | h⟩ := h
  · exact ⟨X, Y, Wn, Hn, some ⟨g, 0, none⟩, N, cap, 0, h.2, hx, .inl ⟨h.1, rfl, rfl, rfl, rfl, rfl, rfl, hr⟩⟩
  · exact ⟨0, 0, 0, 0, none, 0, 0, 3, h.2, hx, .inr ⟨h.1, rfl, rfl, rfl, rfl, rfl, rfl, rfl, rfl⟩⟩
theorem rng_map (f : Nat → Nat) (k : Nat) : (List.range (k + 1)).map f = (List.range k).map f ++ [f k] := by
  rw [List.range_succ, List.map_append]
  rfl
theorem ord_same {b : Nat} (h : nanB b = false) : (FloatKind.f32.format.order b b == some .eq) = true := by
  rw [ord_def, ord_self h]
  rfl
theorem bld_zero {X Y W H : Int} {lf : List Nat} {l : List (Int × Int)} {lb : List Nat} {wide soft : Int} (h : bldE X Y W H lf l lb wide soft = 0) :
    fieldE X Y W H lf = 0 ∧ wayE (outP X Y W H) l = 0 ∧ lb.length = l.length ∧ numE lb = 0 ∧ rngB wide soft = false := by
  unfold bldE at h
  by_cases h1 : fwE X Y W H lf l = 0
  · rw [if_neg (show ¬ fwE X Y W H lf l ≠ 0 by simpa using h1)] at h
    by_cases h2 : lb.length = l.length
    · rw [if_neg (show ¬ lb.length ≠ l.length by simpa using h2)] at h
      by_cases h3 : numE lb = 0
      · rw [if_neg (show ¬ numE lb ≠ 0 by simpa using h3)] at h
        cases h4 : rngB wide soft
        · unfold fwE at h1
          by_cases h5 : fieldE X Y W H lf = 0
          · rw [if_neg (show ¬ fieldE X Y W H lf ≠ 0 by simpa using h5)] at h1
            exact ⟨h5, h1, h2, h3, rfl⟩
          · rw [if_pos h5] at h1
            exact absurd h1 h5
        · rw [h4] at h
          exact absurd h (by decide)
      · rw [if_pos h3] at h
        exact absurd h h3
    · rw [if_pos h2] at h
      exact absurd h (by decide)
  · rw [if_pos h1] at h
    exact absurd h h1
set_option maxRecDepth 100000 in
set_option maxHeartbeats 12800000 in
theorem builds_good (X Y : Int) (Wn Hn : Nat) (adF : Addr) (N c : Nat) (lf : List Nat) (B : Option Addr) (q d : Nat) (l : List (Int × Int)) (adB : Addr) (m cb : Nat) (lb : List Nat) (wide soft : Nat) (w : World) (hr : Reg X Y Wn Hn) (hN : N = Wn * Hn) (hlf : lf.length = N) (hh : ∀ j, j < N → Bd 20 (lf.getD j 0)) (hV : Rd w (some adF) (flt lf)) (hq : l.length = q) (hP : Rd w B (ptv l)) (hm : lb.length = m) (hB : Rd w (some adB) (flt lb)) (hE : bldE X Y Wn Hn lf l lb wide soft = 0) :
    Calls Try.prog 12 #[.agg #[.int .i64 X, .int .i64 Y, .int .i64 (Wn : Int), .int .i64 (Hn : Int), .slice (some adF) N c], .slice B q d, .slice (some adB) m cb, .int .i64 (wide : Int), .int .i64 (soft : Int)] w fun e w' => e = .returned (.bool true) ∧ Ext w w' := by
  obtain ⟨h0, hW, hmq, hnb, hrg⟩ := bld_zero hE
  have hrr : (wide : Int) ≤ 20 ∧ 1 ≤ (soft : Int) ∧ (soft : Int) ≤ 20 := by
    have := of_decide_eq_false hrg
    omega
  have hwi := hidA (show wide ≤ 20 by omega)
  have hs1 := hidA (show 1 ≤ soft by omega)
  have hs2 := hidA (show soft ≤ 20 by omega)
  have hok := wayOk hW
  have hn6 : q ≤ 65536 := by have := hok.le; omega
  have hn1 : 1 ≤ q := by have := hok.pos; omega
  have hN6 : N ≤ 65536 := by rw [hN]; exact hr.n
  have hin : ∀ j, j < q → InR X Y Wn Hn (l.getD j (0, 0)).1 (l.getD j (0, 0)).2 := fun j hj => outP_in (hok.ok j (by omega))
  have hmq2 : m = q := by omega
  have hbb : ∀ j, j < q → Bd 20 (lb.getD j 0) := fun j hj => by
    have hj2 : j < lb.length := by omega
    rw [show lb.getD j 0 = lb[j] by simp [List.getD_eq_getElem?_getD, hj2]]
    exact hgt_bd ((numE_zero hnb).2 _ (List.getElem_mem hj2))
  have HBd : ∀ w', Ext w w' → Hid (Calls Try.prog 54 #[.agg #[.int .i64 X, .int .i64 Y, .int .i64 (Wn : Int), .int .i64 (Hn : Int), .slice (some adF) N c], .slice B q d, .slice (some adB) m cb, .int .i64 (wide : Int), .int .i64 (soft : Int)] w' fun e w'' => BldPost X Y Wn Hn N ((List.range N).map (bvA X Y Wn l q wide soft lb lf)) w' e w'') := fun w' h => by
    rw [hmq2]
    exact hidA (Build_ok X Y Wn Hn adF N c lf B q d l adB cb lb wide soft w' hr hN hlf hh (hV.ext h) hq (hP.ext h) h0 hW (by omega) (hB.ext h) hnb hwi.out hs1.out hs2.out)
  have HBO : ∀ k w', k < N → Ext w w' → Hid (Calls Try.prog 56 #[.agg #[.int .i64 X, .int .i64 Y, .int .i64 (Wn : Int), .int .i64 (Hn : Int), .slice (some adF) N c], .slice B q d, .slice (some adB) m cb, .int .i64 (wide : Int), .int .i64 (soft : Int), .int .i64 (k : Int)] w' fun e w'' => e = .returned (.float .f32 (bvA X Y Wn l q wide soft lb lf k)) ∧ Ext w' w'') := fun k w' hk h => by
    rw [hmq2]
    exact hidA (BuiltOf_any X Y Wn Hn adF N c lf B q d l adB cb lb wide soft k w' hr hN hlf hh (hV.ext h) hq (hP.ext h) hin hn1 hn6 (by omega) (hB.ext h) hbb hwi.out hs1.out hs2.out hk)
  have HFi := fun (w' : World) (h : Ext w w') => hidA (fieldError_any X Y Wn Hn (some adF) N c lf w' hlf (hV.ext h) (by omega))
  have HWe := fun (hf : Nat) (w' : World) (h : Ext w w') (kF : Bk w' hf 26 #[.int .i64 X, .int .i64 Y, .int .i64 (Wn : Int), .int .i64 (Hn : Int), .slice (some adF) N c]) => hidA (WayErrorG_any X Y Wn Hn (some adF) N c hf B q d l w' kF hq (hP.ext h) (by omega))
  have HNb := fun (w' : World) (h : Ext w w') => hidA (numberError_any (some adB) m cb lb w' hm (hB.ext h) (by omega))
  have HL := fun (w : World) => hidA (leads_any w)
  have HWh : ∀ (b : Bool) (k : Int) (w : World), Hid (Calls Try.prog 19 #[.bool b, .int .i64 k] w fun e w' => e = .returned (.int .i64 (whenI b k)) ∧ w = w') := fun b k w => hidA (when_any b k w)
  have HWi : ∀ (a b c : Int) (w : World), Hid (Calls Try.prog 35 #[.int .i64 a, .int .i64 b, .int .i64 c] w fun e w' => e = .returned (.bool (withI a b c)) ∧ w = w') := fun a b c w => hidA (within_any a b c w)
  have hwa : withI (wide : Int) 0 20 = true := by
    cases h : withI (wide : Int) 0 20
    · rw [withI_false] at h
      omega
    · rfl
  have hwn : (!withI (wide : Int) 0 20) = false := by rw [hwa]; rfl
  have HS5 : ∀ (B : Option Addr) (w : World), Rd w B [.int .i64 (fieldE X Y Wn Hn lf), .int .i64 (wayE (outG X Y Wn Hn) l), .int .i64 (whenI ((m : Int) != (q : Int)) 2), .int .i64 (numE lb), .int .i64 (whenI (!withI (soft : Int) 1 20) 3)] → Hid (Calls Try.prog 17 #[.slice B 5 5] w fun e w' => e = .returned (.int .i64 0) ∧ w = w') := fun B w h => by
    have h9 := first_any B 5 5 [fieldE X Y Wn Hn lf, wayE (outG X Y Wn Hn) l, whenI ((m : Int) != (q : Int)) 2, numE lb, whenI (!withI (soft : Int) 1 20) 3] w rfl h (by omega)
    rw [bld_want X Y Wn Hn lf l lb wide soft q m _ hq hm (rng_b hwa), hE] at h9
    exact hidA h9
  have HSx := HS5
  have HEa := fun (A' : Option Addr) (vc : Nat) (w' : World) (h : Ext w w') (adG : Addr) (e : A' = some adG) (hall : ((List.range N).map (bvA X Y Wn l q wide soft lb lf)).all hgtB = true) (hG : Rd w' (some adG) (flt ((List.range N).map (bvA X Y Wn l q wide soft lb lf)))) => hidA (Earth_ok X Y Wn Hn adF adG N c vc lf ((List.range N).map (bvA X Y Wn l q wide soft lb lf)) w' hlf (by simp) hh (fun j hj => by
      have hj2 : j < ((List.range N).map (bvA X Y Wn l q wide soft lb lf)).length := by simpa using hj
      rw [show ((List.range N).map (bvA X Y Wn l q wide soft lb lf)).getD j 0 = ((List.range N).map (bvA X Y Wn l q wide soft lb lf))[j] by simp [List.getD_eq_getElem?_getD, hj]]
      rw [List.all_eq_true] at hall
      exact hgt_bd (hall _ (List.getElem_mem hj2))) (hV.ext h) hG h0 (by
      rw [fieldE_num (field_zero h0).1 (by simp [hN])]
      exact numE_all hall) hN6)
  have HVc : Hid (∀ w' k, k < N → Ext w w' → w'.cell? (adF.add k) = some (.float .f32 (lf.getD k 0))) := fun w' k hk h => by
    obtain ⟨ad', e, _, hcv⟩ := (hV.ext h).at (k := k) (by simp [flt]; omega)
    injection e with e
    subst e
    rw [hcv k _ (flt_get (by omega : k < lf.length))]
    simp [List.getD_eq_getElem?_getD, show k < lf.length by omega]
  obtain ⟨ti, hi0, hz0, hz1, hz2⟩ := info_parts infoFlo
  have HN6 := hidA hN6
  have HN1 : Hid (1 ≤ N) := hidA (by rw [hN]; exact Nat.mul_pos hr.w1 hr.h1)
  have Hh := hidA hh
  clear hr hN hlf hh hV hq hP hm hB hE h0 hW hmq hnb hrg hrr hwi hs1 hs2 hok hn6 hn1 hN6 hin hmq2 hbb HS5 hwa
  generalize hva : bvA X Y Wn l q wide soft lb lf = va at *
  clear hva
  generalize fieldE X Y Wn Hn lf = fe at *
  generalize wayE (outG X Y Wn Hn) l = we at *
  generalize numE lb = ne at *
  go_enter Try.func12, Try.ntmps12
  go_upto_region 1 with fail
  have kF : Bk (w.alloc (.cells #[.int .i64 X, .int .i64 Y, .int .i64 (Wn : Int), .int .i64 (Hn : Int), .slice (some adF) N c] 26)) w.heap.size 26 #[.int .i64 X, .int .i64 Y, .int .i64 (Wn : Int), .int .i64 (Hn : Int), .slice (some adF) N c] := Bk.new' rfl
  have hx0 := (Ext.refl w).alloc (.cells #[.int .i64 X, .int .i64 Y, .int .i64 (Wn : Int), .int .i64 (Hn : Int), .slice (some adF) N c] 26)
  generalize w.alloc (.cells #[.int .i64 X, .int .i64 Y, .int .i64 (Wn : Int), .int .i64 (Hn : Int), .slice (some adF) N c] 26) = w0 at *
  generalize w.heap.size = hf at *
  have f0 := kF.cell 0
  have f1 := kF.cell 1
  have f2 := kF.cell 2
  have f3 := kF.cell 3
  have f4 := kF.cell 4
  go_upto_region 2 with (go_at_call 54; refine ((HBd _ hx0).out).mono ?_; rintro e w1 hp; obtain ⟨a, b, c1, dd, vA, vn, vc, ec, rfl, hx1, hT⟩ := hp.two)
  have kO : Bk (w1.alloc (.cells #[.int .i64 a, .int .i64 b, .int .i64 c1, .int .i64 dd, .slice vA vn vc] 26)) w1.heap.size 26 #[.int .i64 a, .int .i64 b, .int .i64 c1, .int .i64 dd, .slice vA vn vc] := Bk.new' rfl
  have kF1 := (kF.ext hx1).alloc (.cells #[.int .i64 a, .int .i64 b, .int .i64 c1, .int .i64 dd, .slice vA vn vc] 26)
  have hxa := (hx0.trans hx1).alloc (.cells #[.int .i64 a, .int .i64 b, .int .i64 c1, .int .i64 dd, .slice vA vn vc] 26)
  have hT1 := hT.ext ((Ext.refl w1).alloc (.cells #[.int .i64 a, .int .i64 b, .int .i64 c1, .int .i64 dd, .slice vA vn vc] 26))
  clear f0 f1 f2 f3 f4 kF hx0 hx1 HBd hT
  generalize w1.alloc (.cells #[.int .i64 a, .int .i64 b, .int .i64 c1, .int .i64 dd, .slice vA vn vc] 26) = w2 at *
  generalize w1.heap.size = ho at *
  have f0 := kF1.cell 0
  have f1 := kF1.cell 1
  have f2 := kF1.cell 2
  have f3 := kF1.cell 3
  have f4 := kF1.cell 4
  go_upto_region 7 with (first | (go_at_call 49; refine ((HFi _ hxa).out).mono ?_; rintro e w3 ⟨rfl, hx3⟩) | (go_at_call 39; refine ((HWe _ _ (hxa.trans hx3) (kF1.ext hx3)).out).mono ?_; rintro e w5 ⟨rfl, hx5⟩) | (go_at_call 15; refine ((HL _).out).mono ?_; rintro e w4 ⟨rfl, hx4⟩; have kF4 := kF1.ext (show Ext w2 w4 from (by repeat (first | exact Ext.refl _ | assumption | refine Ext.setCell ?_ (by first | (simp; done) | (simp; omega)) _ | refine Ext.drewN ?_ _ | refine Ext.alloc ?_ _ | refine Ext.drew ?_ | refine Ext.trans ?_ (by assumption)))); have f0 := kF4.cell 0; have f1 := kF4.cell 1; have f2 := kF4.cell 2; have f3 := kF4.cell 3; have f4 := kF4.cell 4) | (go_at_call 35; refine ((HWi _ _ _ _).out).mono ?_; rintro e w7 ⟨rfl, hw7⟩; subst hw7) | (go_at_call 19; refine ((HWh _ _ _).out).mono ?_; rintro e w7 ⟨rfl, hw7⟩; subst hw7) | (go_at_call 32; refine ((HNb _ (by repeat (first | exact Ext.refl _ | assumption | refine Ext.setCell ?_ (by first | (simp; done) | (simp; omega)) _ | refine Ext.drewN ?_ _ | refine Ext.alloc ?_ _ | refine Ext.drew ?_ | refine Ext.trans ?_ (by assumption)))).out).mono ?_; rintro e w7 ⟨rfl, hw7⟩; subst hw7) | (go_at_call 15; refine ((HL _).out).mono ?_; rintro e w4 ⟨rfl, hx4⟩) | (go_at_call 17; refine ((HSx _ _ (Rd.new (by first | rfl | simp) (by first | rfl | simp))).out).mono ?_; rintro e w8 ⟨rfl, hw8⟩; subst hw8))
  have hxS : Ext w2 w4 := (by repeat (first | exact Ext.refl _ | assumption | refine Ext.setCell ?_ (by first | (simp; done) | (simp; omega)) _ | refine Ext.drewN ?_ _ | refine Ext.alloc ?_ _ | refine Ext.drew ?_ | refine Ext.trans ?_ (by assumption)))
  have kF4 := hidA (kF1.ext hxS)
  have kO4 := hidA (kO.ext hxS)
  have hT4 := hidA (hT1.ext hxS)
  have hxw := hidA (hxa.trans hxS)
  clear f0 f1 f2 f3 f4 kF1 kO hT1 hxa hx3 hx5 hx4 hxS HFi HWe HNb HSx HL HWi HWh hwn
  generalize w4 = wS at *
  go_loopw [14, 73] (fun s14 s73 wq => ∃ k : Nat, k ≤ N ∧ s73 = .int .i64 k ∧ OwnFl wq wS.heap.size s14 ((List.range k).map va) ∧ Ext wS wq) (fun _ s73 _ => N - (intOf s73).toNat)
  case atStart => exact ⟨0, Nat.zero_le _, rfl, World.ownsRow_nil _ _ _ _, Ext.refl _⟩
  case round =>
    obtain ⟨k, hk, rfl, hO, hx⟩ := hrel
    by_cases hkN : k < N
    · have Hk := hidA hkN
      have HB1 := fun (w' : World) (h : Ext wr w') => HBO k w' hkN ((hxw.out.trans hx).trans h)
      obtain ⟨x, hxv⟩ : ∃ x, x = va k := ⟨_, rfl⟩
      rw [← hxv] at HB1
      have Hxv := hidA hxv
      have kFr := kF4.out.ext hx
      have f0 := kFr.cell 0
      have f1 := kFr.cell 1
      have f2 := kFr.cell 2
      have f3 := kFr.cell 3
      have f4 := kFr.cell 4
      have hone : Hid (∀ u ∈ ([.float .f32 x] : List Value), u.oneCell' = true) := by intro u hu; simp at hu; subst hu; rfl
      have hlen := hidA (show ((List.range k).map va).length ≤ 65536 from by simp; have := HN6.out; omega)
      have hmx2 := hidA (maxY hlen.out).1
      have hmb := hidA (maxY hlen.out).2
      have i0 : (0 : Int) ≤ k := by omega
      have i1 : (k : Int) < N := by omega
      have iN : (N : Int) ≤ 65536 := by have := HN6.out; omega
      clear hk hkN hxv
      go_upto_region 10 with (first | (go_at_call 56; refine ((HB1 _ (by repeat (first | exact Ext.refl _ | assumption | refine Ext.setCell ?_ (by first | (simp; done) | (simp; omega)) _ | refine Ext.drewN ?_ _ | refine Ext.alloc ?_ _ | refine Ext.drew ?_ | refine Ext.trans ?_ (by assumption)))).out).mono ?_; rintro e wb ⟨rfl, hxb⟩; have hxe : Ext wr (wb.alloc (.cells #[.float .f32 x] 27)) := (show Ext wr wb from (by repeat (first | exact Ext.refl _ | assumption | refine Ext.setCell ?_ (by first | (simp; done) | (simp; omega)) _ | refine Ext.drewN ?_ _ | refine Ext.alloc ?_ _ | refine Ext.drew ?_ | refine Ext.trans ?_ (by assumption)))).alloc _; have hxa := hidA (hx.trans hxe); have hown2 := hidA (hO.ext hxe); have hnews : Hid (∀ j u, ([.float .f32 x] : List Value)[j]? = some u → (wb.alloc (.cells #[.float .f32 x] 27)).cell? ((⟨wb.heap.size, 0, none⟩ : Addr).add j) = some u) := World.news_of_block (cs := #[.float .f32 x]) (t := 27) (fr := (0, 0)) (heap_alloc_new wb _); have hs9 := hidA (show wS.heap.size ≤ (wb.alloc (.cells #[.float .f32 x] 27)).heap.size from hxa.out.size); have hsz1 := hidA (show (wb.alloc (.cells #[.float .f32 x] 27)).heap.size = wb.heap.size + 1 from by rw [World.size_alloc])) | (at_builtin; (refine wpList_append_own _ (by rfl) _ _ 24 (by rfl) wS.heap.size 27 ti (.float .f32 0) 1 4 Try.underlying24 hi0 hz0 hz1 hz2 rfl (by decide) u14 ((List.range k).map va).length (flt ((List.range k).map va)) (by rfl) hown2.out ⟨wb.heap.size, 0, none⟩ 1 1 [.float .f32 x] (by rfl) (by rfl) hnews.out hone.out hmx2.out hmb.out hs9.out ?_; intro v9 w9 hown9 hgrow9 _)))
      have hx9 := hidA (hxa.out.grown hgrow9 (fun b hb => (World.ownsRow.lt hown2.out b hb).1))
      have HO9 := hidA (show OwnFl w9 wS.heap.size v9 ((List.range (k + 1)).map va) from by
        rw [rng_map, ← Hxv.out]
        exact OwnFl.push hown9)
      clear hlen hxa hown2 hnews hone hs9 hsz1 hmx2 hmb hown9 hgrow9 HB1 hxe hO hx hxb Hxv f0 f1 f2 f3 f4
      go_wp2
      go_roundw
      case rel => exact ⟨k + 1, Hk.out, (by first | rfl | go_num), HO9.out, hx9.out⟩
      case measure => exact nxt_c Hk.out
    · obtain rfl : N = k := by omega
      obtain ⟨sA, sc, rfl, hrd⟩ := OwnFl.any hO
      have e1 : ((List.range N).map va).length = N := by simp
      rw [e1]
      have kFr := kF4.out.ext hx
      have kOr := kO4.out.ext hx
      have HRe := fun (w' : World) (h : Ext wr w') => hidA (result_both X Y Wn Hn N ((List.range N).map va) w' a b c1 dd vA sA vn vc sc ec ((hT4.out.ext hx).ext h) e1 (hrd.ext h) (by have := HN6.out; omega))
      have f0 := kFr.cell 0
      have f1 := kFr.cell 1
      have f2 := kFr.cell 2
      have f3 := kFr.cell 3
      have f4 := kFr.cell 4
      have g0 := kOr.cell 0
      have g1 := kOr.cell 1
      have g2 := kOr.cell 2
      have g3 := kOr.cell 3
      have g4 := kOr.cell 4
      have Hxr := hidA (hxw.out.trans hx)
      have Hx := hidA hx
      clear hk hkN hO e1 hrd HBO kF4 kO4 hx
      have hvl := hidA (show ((List.range N).map va).length = N by simp)
      generalize (List.range N).map va = vv at *
      rcases hT4.out with ⟨hall, ea, eb, ec1, ed, en, ee, hG⟩ | ⟨hall, ea, eb, ec1, ed, eA, en, ev, ee⟩
      · subst a b c1 dd vn ec
        obtain ⟨adG, rfl, _, _⟩ := hG (fun e9 => by
          have h1 : (flt vv).length = 0 := by rw [e9]; rfl
          rw [show (flt vv).length = vv.length by simp [flt]] at h1
          have := HN1.out
          have := hvl.out
          omega)
        have hGr := hG.ext Hx.out
        have HEr := fun (w' : World) (h : Ext wr w') => HEa _ vc w' ((Hxr.out).trans h) adG rfl hall (hGr.ext h)
        have HGc : Hid (∀ w' k, k < N → Ext wr w' → w'.cell? (adG.add k) = some (.float .f32 (vv.getD k 0))) := fun w' k hk h => by
          have := hvl.out
          obtain ⟨ad', e, _, hcv⟩ := (hGr.ext h).at (k := k) (by simp [flt]; omega)
          injection e with e
          subst e
          rw [hcv k _ (flt_get (by omega : k < vv.length))]
          simp [List.getD_eq_getElem?_getD, show k < vv.length by omega]
        obtain ⟨fv, hfv⟩ : ∃ fv : Nat → Nat, fv = fun k => lf.getD k 0 := ⟨_, rfl⟩
        obtain ⟨gv, hgv⟩ : ∃ gv : Nat → Nat, gv = fun k => vv.getD k 0 := ⟨_, rfl⟩
        have HF := hidA (fun w' k (hk : k < N) (h : Ext w w') => show w'.cell? (adF.add k) = some (.float .f32 (fv k)) from by rw [hfv]; exact HVc.out w' k hk h)
        have HGv := hidA (fun w' k (hk : k < N) (h : Ext wr w') => show w'.cell? (adG.add k) = some (.float .f32 (gv k)) from by rw [hgv]; exact HGc.out w' k hk h)
        have Bf := hidA (fun j (hj : j < N) => show Bd 20 (fv j) from by rw [hfv]; exact Hh.out j hj)
        have Bg := hidA (fun j (hj : j < N) => show Bd 20 (gv j) from by
          have hj2 : j < vv.length := by have := hvl.out; omega
          rw [hgv]
          show Bd 20 (vv.getD j 0)
          rw [show vv.getD j 0 = vv[j] by simp [List.getD_eq_getElem?_getD, hj2]]
          rw [List.all_eq_true] at hall
          exact hgt_bd (hall _ (List.getElem_mem hj2)))
        rw [← hfv, ← hgv] at HEr
        clear hfv hgv hall hG hGr HGc HEa HVc Hh hT4
        go_upto_region 18 with (first | (go_at_call 57; refine ((HRe _ (by repeat (first | exact Ext.refl _ | assumption | refine Ext.setCell ?_ (by first | (simp; done) | (simp; omega)) _ | refine Ext.drewN ?_ _ | refine Ext.alloc ?_ _ | refine Ext.drew ?_ | refine Ext.trans ?_ (by assumption)))).out).mono ?_; rintro e w6 ⟨rfl, hx6⟩; have hy6 : Ext wr w6 := (by repeat (first | exact Ext.refl _ | assumption | refine Ext.setCell ?_ (by first | (simp; done) | (simp; omega)) _ | refine Ext.drewN ?_ _ | refine Ext.alloc ?_ _ | refine Ext.drew ?_ | refine Ext.trans ?_ (by assumption))); have kF6 := kFr.ext hy6; have kO6 := kOr.ext hy6; have f0 := kF6.cell 0; have f1 := kF6.cell 1; have f2 := kF6.cell 2; have f3 := kF6.cell 3; have f4 := kF6.cell 4; have g0 := kO6.cell 0; have g1 := kO6.cell 1; have g2 := kO6.cell 2; have g3 := kO6.cell 3; have g4 := kO6.cell 4) | (go_at_call 58; refine ((HEr _ (by repeat (first | exact Ext.refl _ | assumption | refine Ext.setCell ?_ (by first | (simp; done) | (simp; omega)) _ | refine Ext.drewN ?_ _ | refine Ext.alloc ?_ _ | refine Ext.drew ?_ | refine Ext.trans ?_ (by assumption)))).out).mono ?_; rintro e w7 ⟨rfl, hx7⟩; have hy7 : Ext wr w7 := (by repeat (first | exact Ext.refl _ | assumption | refine Ext.setCell ?_ (by first | (simp; done) | (simp; omega)) _ | refine Ext.drewN ?_ _ | refine Ext.alloc ?_ _ | refine Ext.drew ?_ | refine Ext.trans ?_ (by assumption))); have kF7 := kFr.ext hy7; have kO7 := kOr.ext hy7; have f4 := kF7.cell 4; have g4 := kO7.cell 4))
        have KF := hidA kF7
        have KO := hidA kO7
        have Hy := hidA hy7
        have Hw7 := hidA (Hxr.out.trans hy7)
        have HGv7 := hidA (fun w' k (hk : k < N) (h : Ext w7 w') => HGv.out w' k hk (hy7.trans h))
        clear f0 f1 f2 f3 f4 g0 g1 g2 g3 g4 kF6 kO6 kF7 kO7 kFr kOr hy6 hx6 hx7 hy7 HRe HEr HGv
        go_loopw [19, 20, 106] (fun s19 s20 s106 wq => ∃ k : Nat, k ≤ N ∧ s106 = .int .i64 k ∧ s19 = .float .f32 (erA fv gv k) ∧ s20 = .float .f32 (erM fv gv k) ∧ Ext w7 wq) (fun _ _ s106 _ => N - (intOf s106).toNat)
        case atStart => exact ⟨0, Nat.zero_le _, rfl, rfl, rfl, Ext.refl _⟩
        case round =>
          obtain ⟨k, hk, rfl, rfl, rfl, hx⟩ := hrel
          have bA := erA_bd (N := N) (fun k h => Bf.out k h) (fun k h => Bg.out k h) k hk
          have bM := erM_bd (N := N) (fun k h => Bf.out k h) (fun k h => Bg.out k h) k hk
          by_cases hkN : k < N
          · have Hk := hidA hkN
            have c1 := HF.out _ k hkN (Hw7.out.trans hx)
            have c2 := HGv7.out _ k hkN hx
            have f4 := (KF.out.ext hx).cell 4
            have g4 := (KO.out.ext hx).cell 4
            have i0 : (0 : Int) ≤ k := by omega
            have i1 : (k : Int) < N := by omega
            have iN : (N : Int) ≤ 65536 := by have := HN6.out; omega
            have bf := Bf.out k hkN
            have bg := Bg.out k hkN
            have hA := hidA (show erA fv gv (k + 1) = if lt (gv k) (fv k) = true then fadd (erA fv gv k) (fsub (fv k) (gv k)) else erA fv gv k from rfl)
            have hM := hidA (show erM fv gv (k + 1) = if gt (gv k) (fv k) = true then fadd (erM fv gv k) (fsub (gv k) (fv k)) else erM fv gv k from rfl)
            have lv := lt_val (bd_Fin bg (by omega)) (bd_Fin bf (by omega))
            have gv' := gt_val (bd_Fin bg (by omega)) (bd_Fin bf (by omega))
            have Hx := hidA hx
            generalize erA fv gv k = a at *
            generalize erM fv gv k = m1 at *
            generalize fv k = x at *
            generalize gv k = y at *
            clear hk hkN hx
            cases hl : lt y x
            · have hl' : (FloatKind.f32.format.order y x == some .lt) = false := hl
              have HL := hidA hl
              cases hgt : gt y x
              · have hg' : (FloatKind.f32.format.order y x == some .gt) = false := hgt
                have HG2 := hidA hgt
                clear lv gv' hl hgt bA bM bf bg
                go_wp2
                go_quiet (fail)
                go_wp2
                go_quiet (fail)
                go_wp2
                go_roundw
                case rel => exact ⟨k + 1, Hk.out, (by first | rfl | go_num), (by rw [hA.out, HL.out]; rfl), (by rw [hM.out, HG2.out]; rfl), Ext.trans Hx.out (by repeat (first | exact Ext.refl _ | assumption | refine Ext.setCell ?_ (by first | (simp; done) | (simp; omega)) _ | refine Ext.drewN ?_ _ | refine Ext.alloc ?_ _ | refine Ext.drew ?_ | refine Ext.trans ?_ (by assumption)))⟩
                case measure => exact nxt_c Hk.out
              · have hg' : (FloatKind.f32.format.order y x == some .gt) = true := hgt
                have HG2 := hidA hgt
                rw [hgt] at gv'
                have hv := of_decide_eq_true gv'.symm
                obtain ⟨s1, s2, s3⟩ := sub_pos bg bf (by omega)
                have r1 := fun (w : World) => run_float_arith (P := Try.prog) w .sub 27 .f32 _ _ _ s1
                have r2 := fun (w : World) => run_float_arith (P := Try.prog) w .add 27 .f32 _ _ _ (fadd_ok bM (s2.mono (by omega)) (by omega)).1
                clear lv gv' hl hgt bA bM bf bg s1 s2 s3 hv
                generalize hsm : fadd m1 (fsub y x) = sm at *
                generalize fsub y x = df at *
                have HSm := hidA hsm
                clear hsm
                go_wp2
                go_quiet (fail)
                go_wp2
                go_quiet (fail)
                go_wp2
                go_quiet (fail)
                go_wp2
                go_roundw
                case rel => exact ⟨k + 1, Hk.out, (by first | rfl | go_num), (by rw [hA.out, HL.out]; rfl), (by rw [hM.out, HG2.out]; rfl), Ext.trans Hx.out (by repeat (first | exact Ext.refl _ | assumption | refine Ext.setCell ?_ (by first | (simp; done) | (simp; omega)) _ | refine Ext.drewN ?_ _ | refine Ext.alloc ?_ _ | refine Ext.drew ?_ | refine Ext.trans ?_ (by assumption)))⟩
                case measure => exact nxt_c Hk.out
            · have hl' : (FloatKind.f32.format.order y x == some .lt) = true := hl
              have HL := hidA hl
              have hgt : gt y x = false := by
                rw [hl] at lv
                have hv := of_decide_eq_true lv.symm
                rw [gv']
                exact decide_eq_false (by omega)
              have hg' : (FloatKind.f32.format.order y x == some .gt) = false := hgt
              have HG2 := hidA hgt
              rw [hl] at lv
              have hv := of_decide_eq_true lv.symm
              obtain ⟨s1, s2, s3⟩ := sub_pos bf bg (by omega)
              have r1 := fun (w : World) => run_float_arith (P := Try.prog) w .sub 27 .f32 _ _ _ s1
              have r2 := fun (w : World) => run_float_arith (P := Try.prog) w .add 27 .f32 _ _ _ (fadd_ok bA (s2.mono (by omega)) (by omega)).1
              clear lv gv' hl hgt bA bM bf bg s1 s2 s3 hv
              generalize hsm : fadd a (fsub x y) = sm at *
              generalize fsub x y = df at *
              have HSm := hidA hsm
              clear hsm
              go_wp2
              go_quiet (fail)
              go_wp2
              go_quiet (fail)
              go_wp2
              go_quiet (fail)
              go_wp2
              go_roundw
              case rel => exact ⟨k + 1, Hk.out, (by first | rfl | go_num), (by rw [hA.out, HL.out]; rfl), (by rw [hM.out, HG2.out]; rfl), Ext.trans Hx.out (by repeat (first | exact Ext.refl _ | assumption | refine Ext.setCell ?_ (by first | (simp; done) | (simp; omega)) _ | refine Ext.drewN ?_ _ | refine Ext.alloc ?_ _ | refine Ext.drew ?_ | refine Ext.trans ?_ (by assumption)))⟩
              case measure => exact nxt_c Hk.out
          · obtain rfl : N = k := by omega
            have q1 := ord_same (bd_fin bA (by omega))
            have q2 := ord_same (bd_fin bM (by omega))
            have Hend := hidA (Hw7.out.trans hx)
            generalize erA fv gv N = a at *
            generalize erM fv gv N = m1 at *
            clear hk hkN hx bA bM
            go_wp2
            go_ret
            exact ⟨by first | rfl | simp, Hend.out.trans (by repeat (first | exact Ext.refl _ | assumption | refine Ext.setCell ?_ (by first | (simp; done) | (simp; omega)) _ | refine Ext.drewN ?_ _ | refine Ext.alloc ?_ _ | refine Ext.drew ?_ | refine Ext.trans ?_ (by assumption)))⟩
      · subst a b c1 dd vA vn vc ec
        go_wp2_with (go_at_call 57; refine ((HRe _ (by repeat (first | exact Ext.refl _ | assumption | refine Ext.setCell ?_ (by first | (simp; done) | (simp; omega)) _ | refine Ext.drewN ?_ _ | refine Ext.alloc ?_ _ | refine Ext.drew ?_ | refine Ext.trans ?_ (by assumption)))).out).mono ?_; rintro e w6 ⟨rfl, hx6⟩)
        go_ret
        exact ⟨by first | rfl | simp, Hxr.out.trans (by repeat (first | exact Ext.refl _ | assumption | refine Ext.setCell ?_ (by first | (simp; done) | (simp; omega)) _ | refine Ext.drewN ?_ _ | refine Ext.alloc ?_ _ | refine Ext.drew ?_ | refine Ext.trans ?_ (by assumption)))⟩
set_option maxRecDepth 100000 in
theorem builds_walk (X Y W H : Int) (A : Option Addr) (N c : Nat) (lf : List Nat) (B : Option Addr) (q d : Nat) (l : List (Int × Int)) (C : Option Addr) (m cb : Nat) (lb : List Nat) (wide soft : Int) (w : World) (hn : lf.length = N) (hV : Rd w A (flt lf)) (hb : N ≤ 140737488351232) (hq : l.length = q) (hP : Rd w B (ptv l)) (hqb : q ≤ 140737488351232) (hm : lb.length = m) (hB : Rd w C (flt lb)) (hmb : m ≤ 140737488351232) :
    Calls Try.prog 12 #[.agg #[.int .i64 X, .int .i64 Y, .int .i64 W, .int .i64 H, .slice A N c], .slice B q d, .slice C m cb, .int .i64 wide, .int .i64 soft] w fun e w' => e = .returned (.bool true) ∧ Ext w w' := by
  by_cases hE : bldE X Y W H lf l lb wide soft = 0
  · obtain ⟨h0, hW, hlm, _, hrg⟩ := bld_zero hE
    obtain ⟨f1, f2, f3⟩ := field_zero h0
    obtain ⟨Wn, Hn, rfl, rfl, hg⟩ := Reg.of_zero f1
    have hlen : lf.length = Wn * Hn := by
      have h9 : (lf.length : Int) = ((Wn * Hn : Nat) : Int) := by rw [f2, Int.natCast_mul]
      omega
    have hN : N = Wn * Hn := by rw [← hn]; exact hlen
    have hN1 : 1 ≤ N := by rw [hN]; exact Nat.mul_pos hg.w1 hg.h1
    have hh : ∀ j, j < N → Bd 20 (lf.getD j 0) := fun j hj => by
      have hj2 : j < lf.length := by omega
      rw [show lf.getD j 0 = lf[j] by simp [List.getD_eq_getElem?_getD, hj2]]
      exact hgt_bd ((numE_zero f3).2 _ (List.getElem_mem hj2))
    have hrr := of_decide_eq_false hrg
    obtain ⟨wd, rfl⟩ : ∃ wd : Nat, wide = (wd : Int) := ⟨wide.toNat, by omega⟩
    obtain ⟨sf, rfl⟩ : ∃ sf : Nat, soft = (sf : Int) := ⟨soft.toNat, by omega⟩
    have hl1 := (wayOk hW).pos
    have hne : ∀ (k : List Nat), 1 ≤ k.length → flt k ≠ [] := fun k h1 e9 => by
      have h2 : (flt k).length = 0 := by rw [e9]; rfl
      rw [show (flt k).length = k.length by simp [flt]] at h2
      omega
    obtain ⟨adF, rfl, _, _⟩ := hV (hne lf (by omega))
    obtain ⟨adB, rfl, _, _⟩ := hB (hne lb (by omega))
    exact builds_good X Y Wn Hn adF N c lf B q d l adB m cb lb wd sf w hg hN hn hh hV hq hP hm hB hE
  · exact builds_bad X Y W H A N c lf B q d l C m cb lb wide soft w hn hV hb hq hP hqb hm hB hmb hE
end Go.Proofs.Ytpgdinpckolfpaa

namespace Go.Proofs.Ytpgdinpckolfpaa
open Go.ChangeShapes Go.WideShapes Go.ChangeAt Go.RowKit Go.Joins Go.Deep 

theorem own : ownKnob Try.prog.godebug = none := by kernel_rfl
theorem laidOut : laidOutB Try.prog = true := by kernel_rfl
theorem cellsField : Try.prog.cellsOf 26 = 5 := by kernel_rfl
theorem cellsRegion : Try.prog.cellsOf 23 = 4 := by kernel_rfl
theorem cellsPoint : Try.prog.cellsOf 32 = 2 := by kernel_rfl
theorem cellsInt : Try.prog.cellsOf 3 = 1 := by kernel_rfl
theorem cellsFloats : Try.prog.cellsOf 24 = 1 := by kernel_rfl
theorem cellsFloat : Try.prog.cellsOf 27 = 1 := by kernel_rfl
theorem bytesFloat : Try.prog.bytesOf 27 = 4 := by kernel_rfl

section
variable {H : Type} {enc : TypeId × Value → H} {W : World} {base : Nat}

theorem trod_flo {P : Program} {w : World} {spare : Nat → Bool} {held : Bool} {fuel : Nat} {t : TypeId} {k : FloatKind} {cs : List Value} {x : DataW H × List MemPlace} (ht : P.underlying t = some (.float k)) (h : DataW.trod enc P w base spare held fuel t cs = some x) : ∃ b, cs = [.float k b] := by
  cases fuel with
  | zero => simp [DataW.trod] at h
  | succ n =>
    unfold DataW.trod at h
    rw [ht] at h
    split at h <;> simp_all

set_option maxRecDepth 100000 in
theorem open_point {spare : Nat → Bool} {held : Bool} {r : Reach} {b0 : Nat} {v : Value} {d : DataW H} {p : List MemPlace} (hv : Value.okWide Try.prog W r b0 32 v)
    (h : DataW.Trod enc Try.prog W base spare held 32 v d p) : ∃ x y : Int, v = .agg #[.int .i64 x, .int .i64 y] := by
  obtain ⟨v0, v1, y0, y1, n, rfl, rfl, rfl, h0, h1⟩ := open_agg2 Try.underlying32 (by kernel_rfl) cellsPoint hv h
  obtain ⟨x, e0, _, _⟩ := DataW.trod_int Try.underlying3 h0
  obtain ⟨y, e1, _, _⟩ := DataW.trod_int Try.underlying3 h1
  obtain rfl : v0 = _ := by simpa using e0
  obtain rfl : v1 = _ := by simpa using e1
  exact ⟨x, y, rfl⟩

theorem cell_lt {w : World} {a : Addr} {v : Value} (h : w.cell? a = some v) : a.block < w.heap.size := by
  by_cases hb : a.block < w.heap.size
  · exact hb
  · simp [World.cell?, Array.getElem?_eq_none (Nat.le_of_not_lt hb)] at h

set_option maxRecDepth 100000 in
theorem open_field {r : Reach} {b0 : Nat} {held : Bool} {v : Value} {d : DataW H} {p : List MemPlace} (hv : Value.okWide Try.prog W r b0 26 v)
    (h : DataW.Trod enc Try.prog W base (fun _ => true) held 26 v d p) (hsz : ∀ n ∈ d.weights Try.prog 26, n ≤ reachBytes) :
    ∃ (X Y K J : Int) (A : Option Addr) (n c : Nat) (l : List Nat), v = .agg #[.int .i64 X, .int .i64 Y, .int .i64 K, .int .i64 J, .slice A n c] ∧ l.length = n ∧ Rd W A (flt l) ∧ n ≤ 140737488351232 := by
  obtain ⟨cs, rfl, hcs⟩ := okWide_struct Try.underlying26 hv
  rw [cellsField] at hcs
  obtain ⟨L⟩ := cs
  match L, hcs with
  | [c0, c1, c2, c3, c4], _ =>
    obtain ⟨fuel, hf⟩ := h
    obtain ⟨y0, y1, n, hx, _, h0, h1⟩ := trod_struct2 Try.underlying26 hf
    simp only [Prod.mk.injEq] at hx
    obtain ⟨rfl, rfl⟩ := hx
    simp only [Value.cells, cellsRegion, cellsFloats] at h0 h1
    simp at h0 h1
    obtain ⟨r0, r1, r2, r3, m, hx0, _, g0, g1, g2, g3⟩ := trod_struct4 Try.underlying23 h0
    simp [cellsInt] at g0 g1 g2 g3
    obtain ⟨X, e0, _, _⟩ := DataW.trod_int Try.underlying3 g0
    obtain ⟨Y, e1, _, _⟩ := DataW.trod_int Try.underlying3 g1
    obtain ⟨K, e2, _, _⟩ := DataW.trod_int Try.underlying3 g2
    obtain ⟨J, e3, _, _⟩ := DataW.trod_int Try.underlying3 g3
    obtain rfl : c0 = _ := by simpa using e0
    obtain rfl : c1 = _ := by simpa using e1
    obtain rfl : c2 = _ := by simpa using e2
    obtain rfl : c3 = _ := by simpa using e3
    rcases open_slice1 Try.underlying24 cellsFloat h1 with ⟨hc, hd⟩ | ⟨a, len, cap, m', n', V, D, Pl, hc, _, hl, _, hm, hd, hV⟩
    · obtain rfl : c4 = _ := by simpa using hc
      exact ⟨X, Y, K, J, none, 0, 0, [], rfl, rfl, Rd.nil _ _, by omega⟩
    · obtain rfl : c4 = _ := by simpa using hc
      simp only [if_true] at hm
      subst hm
      obtain ⟨f, hff⟩ := choose_lt (α := Nat) (n := len) (p := fun i b => V i = .float .f32 b) (fun i hi => by
        obtain ⟨b, hb⟩ := trod_flo Try.underlying27 (hV i (by omega)).2
        exact ⟨b, by simpa using hb⟩)
      have hw : (len + (m' - len)) * 4 ≤ reachBytes := by
        refine hsz _ ?_
        rw [hd]
        simp [DataW.weights, DataW.weightsEach, Try.underlying26, Try.underlying24, bytesFloat]
      refine ⟨X, Y, K, J, some a, len, m', (List.range len).map f, rfl, by simp, ?_, by simp only [reachBytes] at hw; omega⟩
      intro hne
      have hpos : 0 < len := by
        rcases Nat.eq_zero_or_pos len with h | h
        · subst h; exact absurd rfl hne
        · exact h
      refine ⟨a, rfl, ?_, ?_⟩
      · have := cell_lt (hV 0 (by omega)).1
        rwa [add_block] at this
      · intro j u hu
        have hj : j < len := by
          have := (List.getElem?_eq_some_iff.1 hu).1
          simpa [flt] using this
        simp [flt, hj] at hu
        rw [(hV j (by omega)).1, hff j hj, hu]
set_option maxRecDepth 100000 in
theorem open_region {spare : Nat → Bool} {held : Bool} {r : Reach} {b0 : Nat} {v : Value} {d : DataW H} {p : List MemPlace} (hv : Value.okWide Try.prog W r b0 23 v)
    (h : DataW.Trod enc Try.prog W base spare held 23 v d p) : ∃ X Y K J : Int, v = .agg #[.int .i64 X, .int .i64 Y, .int .i64 K, .int .i64 J] := by
  obtain ⟨cs, rfl, hcs⟩ := okWide_struct Try.underlying23 hv
  rw [cellsRegion] at hcs
  obtain ⟨L⟩ := cs
  match L, hcs with
  | [c0, c1, c2, c3], _ =>
    obtain ⟨fuel, hf⟩ := h
    obtain ⟨r0, r1, r2, r3, m, hx0, _, g0, g1, g2, g3⟩ := trod_struct4 Try.underlying23 hf
    simp [Value.cells, cellsInt] at g0 g1 g2 g3
    obtain ⟨X, e0, _, _⟩ := DataW.trod_int Try.underlying3 g0
    obtain ⟨Y, e1, _, _⟩ := DataW.trod_int Try.underlying3 g1
    obtain ⟨K, e2, _, _⟩ := DataW.trod_int Try.underlying3 g2
    obtain ⟨J, e3, _, _⟩ := DataW.trod_int Try.underlying3 g3
    obtain rfl : c0 = _ := by simpa using e0
    obtain rfl : c1 = _ := by simpa using e1
    obtain rfl : c2 = _ := by simpa using e2
    obtain rfl : c3 = _ := by simpa using e3
    exact ⟨X, Y, K, J, rfl⟩

theorem one_flo {spare : Nat → Bool} {held : Bool} {n : Nat} {v : Value} {y : Option (DataW H × List MemPlace)} (h : DataW.trod enc Try.prog W base spare held n 27 [v] = y) (hy : y.isSome = true) : ∃ b, v = .float .f32 b := by
  obtain ⟨z, rfl⟩ := Option.isSome_iff_exists.1 hy
  obtain ⟨b, e⟩ := trod_flo Try.underlying27 h
  exact ⟨b, by simpa using e⟩
theorem one_int {spare : Nat → Bool} {held : Bool} {n : Nat} {v : Value} {y : Option (DataW H × List MemPlace)} (h : DataW.trod enc Try.prog W base spare held n 3 [v] = y) (hy : y.isSome = true) : ∃ b, v = .int .i64 b := by
  obtain ⟨z, rfl⟩ := Option.isSome_iff_exists.1 hy
  obtain ⟨x, e, _, _⟩ := DataW.trod_int Try.underlying3 h
  exact ⟨x, by simpa using e⟩

end
end Go.Proofs.Ytpgdinpckolfpaa

namespace Go.Proofs.Ytpgdinpckolfpaa
open Go.ChangeShapes Go.WideShapes Go.ChangeAt Go.RowKit Go.Joins Go.Deep

theorem bytesPoint : Try.prog.bytesOf 32 = 16 := by kernel_rfl
theorem list2 {α : Type} {cs : List α} (h : cs.length = 2) : ∃ c0 c1, cs = [c0, c1] := by
  match cs, h with
  | [c0, c1], _ => exact ⟨c0, c1, rfl⟩
theorem flat_get {α β : Type} {f : α → List β} {m : Nat} (hf : ∀ x, (f x).length = m) : ∀ {l : List α} {k i : Nat} (hk : k < l.length), i < m → (l.flatMap f)[k * m + i]? = (f l[k])[i]?
  | x :: r, 0, i, _, hi => by
    simp only [List.flatMap_cons, Nat.zero_mul, Nat.zero_add, List.getElem_cons_zero]
    rw [List.getElem?_append_left (by rw [hf]; exact hi)]
  | x :: r, k + 1, i, hk, hi => by
    have hk' : k < r.length := by simpa using hk
    simp only [List.flatMap_cons, List.getElem_cons_succ]
    rw [List.getElem?_append_right (by rw [hf, Nat.add_mul]; omega), hf, show (k + 1) * m + i - m = k * m + i by rw [Nat.add_mul]; omega]
    exact flat_get hf hk' hi
theorem flat_mem {α β : Type} {f : α → List β} {m : Nat} (hf : ∀ x, (f x).length = m) {l : List α} {j : Nat} {u : β} (hu : (l.flatMap f)[j]? = some u) (hm : 0 < m) : ∃ k i, ∃ hk : k < l.length, i < m ∧ j = k * m + i ∧ (f l[k])[i]? = some u := by
  have hl : (l.flatMap f).length = l.length * m := by
    clear hu
    induction l with
    | nil => simp
    | cons x r ih => rw [List.flatMap_cons, List.length_append, ih, hf, List.length_cons, Nat.add_mul]; omega
  have hj : j < l.length * m := by
    have := (List.getElem?_eq_some_iff.1 hu).1
    omega
  have hk : j / m < l.length := (Nat.div_lt_iff_lt_mul hm).2 hj
  have hi : j % m < m := Nat.mod_lt _ hm
  have e : j = j / m * m + j % m := by rw [Nat.mul_comm]; exact (Nat.div_add_mod j m).symm
  refine ⟨j / m, j % m, hk, hi, e, ?_⟩
  rw [← flat_get hf hk hi, ← e]
  exact hu

section
variable {H : Type} {enc : TypeId × Value → H} {W : World} {base : Nat}
set_option maxRecDepth 100000 in
theorem pt_of_trod {spare : Nat → Bool} {held : Bool} {fuel : Nat} {cs : List Value} {y : DataW H × List MemPlace} (hf : DataW.trod enc Try.prog W base spare held fuel 32 cs = some y) : ∃ x : Int × Int, cs = [.int .i64 x.1, .int .i64 x.2] := by
  obtain ⟨xs, n, _, _, hl, hlen, hF⟩ := DataW.trod_struct Try.underlying32 hf
  rw [cellsPoint] at hl
  obtain ⟨c0, c1, rfl⟩ := list2 hl
  have hx : ∀ i, i < 2 → (xs[i]?).isSome = true := fun i hi => by
    have : xs.length = 2 := hlen
    rw [List.getElem?_eq_getElem (by omega)]
    rfl
  obtain ⟨a0, rfl⟩ := one_int (by simpa [Value.cells, cellsInt] using hF 0 _ rfl) (hx 0 (by omega))
  obtain ⟨a1, rfl⟩ := one_int (by simpa [Value.cells, cellsInt] using hF 1 _ rfl) (hx 1 (by omega))
  exact ⟨(a0, a1), rfl⟩
set_option maxRecDepth 100000 in
theorem open_points {r : Reach} {b0 : Nat} {held : Bool} {v : Value} {d : DataW H} {ps : List MemPlace} (hv : Value.okWide Try.prog W r b0 46 v)
    (h : DataW.Trod enc Try.prog W base (fun _ => true) held 46 v d ps) (hsz : ∀ n ∈ d.weights Try.prog 46, n ≤ reachBytes) :
    ∃ (A : Option Addr) (n c : Nat) (l : List (Int × Int)), v = .slice A n c ∧ l.length = n ∧ Rd W A (ptv l) ∧ n ≤ c ∧ n ≤ 140737488351232 := by
  obtain ⟨a0, len0, cap0, rfl⟩ := okWide_slice Try.underlying46 hv
  obtain ⟨fuel, hf⟩ := h
  rcases open_slice Try.underlying46 hf with ⟨hc, hd⟩ | ⟨a, len, cap, m, n, D, Pl, hc, _, hl, _, hm, hd, hV⟩
  · simp [Value.cells] at hc
    obtain ⟨rfl, rfl, rfl⟩ := hc
    exact ⟨none, 0, 0, [], rfl, rfl, Rd.nil _ _, by omega, by omega⟩
  · simp [Value.cells] at hc
    obtain ⟨rfl, rfl, rfl⟩ := hc
    simp only [if_true] at hm
    subst hm
    simp only [Prod.mk.injEq] at hd
    obtain ⟨rfl, _⟩ := hd
    obtain ⟨f, hff⟩ := choose_lt (α := Int × Int) (n := len0) (p := fun i x => ∀ j, j < 2 → W.cell? ((a.add (i * 2)).add j) = ([.int .i64 x.1, .int .i64 x.2] : List Value)[j]?) (fun i hi => by
      obtain ⟨cs', h1, h2⟩ := hV i (by omega)
      rw [cellsPoint] at h1
      obtain ⟨_, _, h3⟩ := World.cells?_some h1
      obtain ⟨x, rfl⟩ := pt_of_trod h2
      exact ⟨x, h3⟩)
    have hw : (len0 + (m - len0)) * 16 ≤ reachBytes := by
      refine hsz _ ?_
      simp [DataW.weights, Try.underlying46, bytesPoint]
    refine ⟨some a, len0, m, (List.range len0).map f, rfl, by simp, ?_, hl, by simp only [reachBytes] at hw; omega⟩
    intro hne
    have hpos : 0 < len0 := by
      rcases Nat.eq_zero_or_pos len0 with h | h
      · subst h; exact absurd rfl hne
      · exact h
    refine ⟨a, rfl, ?_, ?_⟩
    · have := cell_lt ((hff 0 hpos) 0 (by omega))
      rw [add_add'] at this
      rwa [add_block] at this
    · intro j u hu
      obtain ⟨k, i, hk, hi, rfl, hu'⟩ := flat_mem (f := fun p : Int × Int => ([.int .i64 p.1, .int .i64 p.2] : List Value)) (m := 2) (fun _ => rfl) hu (by omega)
      have hk' : k < len0 := by simpa using hk
      have h1 := (hff k hk') i hi
      rw [add_add'] at h1
      rw [h1]
      simpa using hu'
end
end Go.Proofs.Ytpgdinpckolfpaa

namespace Go.Proofs.Ytpgdinpckolfpaa
open Go.ChangeShapes Go.WideShapes Go.ChangeAt Go.RowKit Go.Joins Go.Deep

section
variable {H : Type} {enc : TypeId × Value → H} {W : World} {base : Nat}
set_option maxRecDepth 100000 in
theorem open_floats {r : Reach} {b0 : Nat} {held : Bool} {v : Value} {d : DataW H} {p : List MemPlace} (hv : Value.okWide Try.prog W r b0 24 v)
    (h : DataW.Trod enc Try.prog W base (fun _ => true) held 24 v d p) (hsz : ∀ n ∈ d.weights Try.prog 24, n ≤ reachBytes) :
    ∃ (A : Option Addr) (n c : Nat) (l : List Nat), v = .slice A n c ∧ l.length = n ∧ Rd W A (flt l) ∧ n ≤ 140737488351232 := by
  obtain ⟨a0, len0, cap0, rfl⟩ := okWide_slice Try.underlying24 hv
  obtain ⟨fuel, hf⟩ := h
  rcases open_slice1 Try.underlying24 cellsFloat hf with ⟨hc, hd⟩ | ⟨a, len, cap, m', n', V, D, Pl, hc, _, hl, _, hm, hd, hV⟩
  · simp [Value.cells] at hc
    obtain ⟨rfl, rfl, rfl⟩ := hc
    exact ⟨none, 0, 0, [], rfl, rfl, Rd.nil _ _, by omega⟩
  · simp [Value.cells] at hc
    obtain ⟨rfl, rfl, rfl⟩ := hc
    simp only [if_true] at hm
    subst hm
    simp only [Prod.mk.injEq] at hd
    obtain ⟨rfl, _⟩ := hd
    obtain ⟨f, hff⟩ := choose_lt (α := Nat) (n := len0) (p := fun i b => V i = .float .f32 b) (fun i hi => by
      obtain ⟨b, hb⟩ := trod_flo Try.underlying27 (hV i (by omega)).2
      exact ⟨b, by simpa using hb⟩)
    have hw : (len0 + (m' - len0)) * 4 ≤ reachBytes := by
      refine hsz _ ?_
      simp [DataW.weights, Try.underlying24, bytesFloat]
    refine ⟨some a, len0, m', (List.range len0).map f, rfl, by simp, ?_, by simp only [reachBytes] at hw; omega⟩
    intro hne
    have hpos : 0 < len0 := by
      rcases Nat.eq_zero_or_pos len0 with h | h
      · subst h; exact absurd rfl hne
      · exact h
    refine ⟨a, rfl, ?_, ?_⟩
    · have := cell_lt (hV 0 (by omega)).1
      rwa [add_block] at this
    · intro j u hu
      have hj : j < len0 := by
        have := (List.getElem?_eq_some_iff.1 hu).1
        simpa [flt] using this
      simp [flt, hj] at hu
      rw [(hV j (by omega)).1, hff j hj, hu]
end
end Go.Proofs.Ytpgdinpckolfpaa

namespace Go.Proofs.Ytpgdinpckolfpaa
open Go.ChangeShapes Go.WideShapes Go.ChangeAt Go.RowKit Go.Joins Go.Deep

set_option maxRecDepth 100000 in
set_option maxHeartbeats 1600000 in
theorem buildsAsSaid_lifted (os : Os) (started : os.Started) (H : Type) (enc : TypeId × Value → H) :
    ReturnsInHanded {} Try.checked os 12 .any (Rows.buildsAsSaidSpec.pre6 enc Try.prog Try.f12 Rows.buildsAsSaidRow.domain false) (Rows.buildsAsSaidSpec.post enc Try.prog Try.f12 false true false false) := by
  refine returnsInHanded_of_change_sized (C := Try.checked) own started (by kernel_rfl) Try.func12
    (ChangeSpec.witness6 (enc := enc) (C := Try.checked) false ⟨#[], #[.agg #[.int .i64 0, .int .i64 0, .int .i64 0, .int .i64 0, .slice none 0 0], .slice none 0 0, .slice none 0 0, .int .i64 0, .int .i64 0], []⟩ 8 (by kernel_rfl) (by kernel_rfl) (by kernel_rfl) (by kernel_rfl)) ?_
  intro W base args ds gs before hval0 hW _ hsz0 _
  have hsz : (DataW.weightsEach Try.prog (Try.f12.params.toList ++ Rows.buildsAsSaidSpec.plain.varTypes Try.prog) (ds ++ gs)).all (· ≤ reachBytes) = true := hsz0
  clear hsz0
  have hval : ∀ (j : Nat) t v, Try.f12.params[j]? = some t → args[j]? = some v → Value.okWide Try.prog W .any base t v := hval0
  have hW' := hW
  obtain ⟨p, q, hA0, hV, rfl, _, _⟩ := hW
  have hA : DataW.TrodAll enc Try.prog W 0 (fun _ => true) true Try.f12.params.toList args.toList ds p := hA0
  rw [Try.params12] at hA hval hsz
  obtain ⟨v0, vs0, d0, ds0, p0, q0, e0, rfl, rfl, h0, g0⟩ := trodAll_cons hA
  obtain ⟨v1, vs1, d1, ds1, p1, q1, rfl, rfl, rfl, h1, g1⟩ := trodAll_cons g0
  obtain ⟨v2, vs2, d2, ds2, p2, q2, rfl, rfl, rfl, h2, g2⟩ := trodAll_cons g1
  obtain ⟨v3, vs3, d3, ds3, p3, q3, rfl, rfl, rfl, h3, g3⟩ := trodAll_cons g2
  obtain ⟨v4, vs4, d4, ds4, p4, q4, rfl, rfl, rfl, h4, g4⟩ := trodAll_cons g3
  obtain ⟨rfl, rfl, rfl⟩ := trodAll_nil g4
  obtain ⟨L⟩ := args
  obtain rfl : L = [v0, v1, v2, v3, v4] := by simpa using e0
  obtain ⟨rfl, rfl⟩ := trodVars_none hV
  obtain ⟨x0, y0, w0, u0, A0, n0, c0, l0, rfl, hn0, hr0, hb0⟩ := open_field (hval 0 26 v0 rfl rfl) h0 (fun n hn => by
    have := List.all_eq_true.1 hsz n (by simp [DataW.weightsEach, hn])
    simpa using this)
  obtain ⟨A1, n1, c1, l1, rfl, hn1, hr1, hc1, hb1⟩ := open_points (hval 1 46 v1 rfl rfl) h1 (fun n hn => by
    have := List.all_eq_true.1 hsz n (by simp [DataW.weightsEach, hn])
    simpa using this)
  obtain ⟨A2, n2, c2, l2, rfl, hn2, hr2, hb2⟩ := open_floats (hval 2 24 v2 rfl rfl) h2 (fun n hn => by
    have := List.all_eq_true.1 hsz n (by simp [DataW.weightsEach, hn])
    simpa using this)
  obtain ⟨i3, rfl, rfl, rfl, ib3⟩ := open_int Try.underlying3 (hval 3 3 v3 rfl rfl) h3
  obtain ⟨i4, rfl, rfl, rfl, ib4⟩ := open_int Try.underlying3 (hval 4 3 v4 rfl rfl) h4
  clear hA0 hval0
  simp only [List.append_nil] at hW'
  have hlt : ∀ x ∈ p0 ++ p1 ++ p2, x.block < W.heap.size := fun x hx => by simpa using hW'.lt x (by simpa using hx)
  refine (builds_walk x0 y0 w0 u0 A0 n0 c0 l0 A1 n1 c1 l1 A2 n2 c2 l2 i3 i4 W hn0 hr0 hb0 hn1 hr1 hb1 hn2 hr2 hb2).mono fun e W' ⟨he, hx⟩ => ?_
  subst he
  refine ⟨_, rfl, _, _, _, [], p0 ++ (p1 ++ (p2 ++ ([] ++ ([] ++ [])))), [], hW', trodAll_mk1 (shut_bool Try.underlying4 _), ?_, rfl, Below.frame hx _, fun h => by cases h⟩
  refine trodAll_cons_mk (Below.trod laidOut (by kernel_rfl) (of_decide_eq_true (by kernel_rfl)) h0 hx ?_) (trodAll_cons_mk (Below.trod laidOut (by kernel_rfl) (of_decide_eq_true (by kernel_rfl)) h1 hx ?_) (trodAll_mk3 (Below.trod laidOut (by kernel_rfl) (of_decide_eq_true (by kernel_rfl)) h2 hx ?_) (Below.trod laidOut (by kernel_rfl) (of_decide_eq_true (by kernel_rfl)) h3 hx ?_) (Below.trod laidOut (by kernel_rfl) (of_decide_eq_true (by kernel_rfl)) h4 hx ?_)))
  · exact fun x hx => hlt x (by simp [hx])
  · exact fun x hx => hlt x (by simp [hx])
  · exact fun x hx => hlt x (by simp [hx])
  · exact fun x hx => by cases hx
  · exact fun x hx => by cases hx

theorem buildsAsSaid_holds : Rows.BuildsAsSaidSaid :=
  OpenClaim.holds_of_wide 12 Try.f12 rfl rfl rfl rfl rfl rfl rfl ⟨rfl, rfl, rfl, rfl, rfl⟩ rfl rfl rfl rfl rfl (by kernel_rfl) Try.func12 (by kernel_rfl)
    (of_decide_eq_true (by kernel_rfl)) (by unfold Func.isWrapper; first | (rw [if_pos (by decide +kernel)]; kernel_rfl) | (rw [if_neg (by decide +kernel)]; exact ⟨rfl, rfl⟩))
    (fun os started H enc _ => buildsAsSaid_lifted os started H enc)

end Go.Proofs.Ytpgdinpckolfpaa
