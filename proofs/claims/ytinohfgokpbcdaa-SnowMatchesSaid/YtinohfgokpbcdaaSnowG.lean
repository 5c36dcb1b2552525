/- SnowMatches: for every input the call returns true, and each argument reads afterwards as it read before. No condition is asked. -/
import Derived.Test.YtinohfgokpbcdaaRows
import Derived.Test.YtinohfgokpbcdaaBaseC
import Derived.WalkKit
import Derived.ProofKit
import Derived.OpenShut
import Derived.SizedLaws
import Derived.Carry
import Derived.Lib.SmallJoins
import Derived.Deep.Slices
import Derived.Test.YtinohfgokpbcdaaSnowZ
import Derived.Test.YtinohfgokpbcdaaFilledD
import Derived.Test.YtinohfgokpbcdaaShowL
import Derived.Deep.AppendLies
import Derived.Deep.DeepCutAuto
namespace Go.Proofs.Ytinohfgokpbcdaa
open Go.ChangeShapes Go.WideShapes Go.ChangeAt Go.RowKit Go.Joins Go.Deep 

theorem own : ownKnob Try.prog.godebug = none := by kernel_rfl
theorem laidOut : laidOutB Try.prog = true := by kernel_rfl
theorem cellsField : Try.prog.cellsOf 26 = 5 := by kernel_rfl
theorem cellsRegion : Try.prog.cellsOf 23 = 4 := by kernel_rfl
theorem cellsPoint : Try.prog.cellsOf 76 = 2 := by kernel_rfl
theorem cellsInt : Try.prog.cellsOf 3 = 1 := by kernel_rfl
theorem cellsFloats : Try.prog.cellsOf 24 = 1 := by kernel_rfl
theorem cellsFloat : Try.prog.cellsOf 27 = 1 := by kernel_rfl
theorem bytesFloat : Try.prog.bytesOf 27 = 4 := by kernel_rfl

section
variable {H : Type} {enc : TypeId × Value → H} {W : World} {base : Nat}

theorem trod_flo {P : Program} {w : World} {spare : Nat → Bool} {held : Bool} {fuel : Nat} {t : TypeId} {k : FloatKind} {cs : List Value} {x : DataW H × List MemPlace} (ht : P.underlying t = some (.float k)) (h : DataW.trod enc P w base spare held fuel t cs = some x) : ∃ b, cs = [.float k b] := by
  cases fuel with
  | zero => simp [DataW.trod] at h
  | succ n =>
    unfold DataW.trod at h
    rw [ht] at h
    split at h <;> simp_all

set_option maxRecDepth 100000 in
theorem open_point {spare : Nat → Bool} {held : Bool} {r : Reach} {b0 : Nat} {v : Value} {d : DataW H} {p : List MemPlace} (hv : Value.okWide Try.prog W r b0 76 v)
    (h : DataW.Trod enc Try.prog W base spare held 76 v d p) : ∃ x y : Int, v = .agg #[.int .i64 x, .int .i64 y] := by
  obtain ⟨v0, v1, y0, y1, n, rfl, rfl, rfl, h0, h1⟩ := open_agg2 Try.underlying76 (by kernel_rfl) cellsPoint hv h
  obtain ⟨x, e0, _, _⟩ := DataW.trod_int Try.underlying3 h0
  obtain ⟨y, e1, _, _⟩ := DataW.trod_int Try.underlying3 h1
  obtain rfl : v0 = _ := by simpa using e0
  obtain rfl : v1 = _ := by simpa using e1
  exact ⟨x, y, rfl⟩

theorem cell_lt {w : World} {a : Addr} {v : Value} (h : w.cell? a = some v) : a.block < w.heap.size := by
  by_cases hb : a.block < w.heap.size
  · exact hb
  · simp [World.cell?, Array.getElem?_eq_none (Nat.le_of_not_lt hb)] at h

set_option maxRecDepth 100000 in
theorem open_field {r : Reach} {b0 : Nat} {held : Bool} {v : Value} {d : DataW H} {p : List MemPlace} (hv : Value.okWide Try.prog W r b0 26 v)
    (h : DataW.Trod enc Try.prog W base (fun _ => true) held 26 v d p) (hsz : ∀ n ∈ d.weights Try.prog 26, n ≤ reachBytes) :
    ∃ (X Y K J : Int) (A : Option Addr) (n c : Nat) (l : List Nat), v = .agg #[.int .i64 X, .int .i64 Y, .int .i64 K, .int .i64 J, .slice A n c] ∧ l.length = n ∧ Rd W A (flt l) ∧ n ≤ 140737488351232 := by
  obtain ⟨cs, rfl, hcs⟩ := okWide_struct Try.underlying26 hv
  rw [cellsField] at hcs
  obtain ⟨L⟩ := cs
  match L, hcs with
  | [c0, c1, c2, c3, c4], _ =>
    obtain ⟨fuel, hf⟩ := h
    obtain ⟨y0, y1, n, hx, _, h0, h1⟩ := trod_struct2 Try.underlying26 hf
    simp only [Prod.mk.injEq] at hx
    obtain ⟨rfl, rfl⟩ := hx
    simp only [Value.cells, cellsRegion, cellsFloats] at h0 h1
    simp at h0 h1
    obtain ⟨r0, r1, r2, r3, m, hx0, _, g0, g1, g2, g3⟩ := trod_struct4 Try.underlying23 h0
    simp [cellsInt] at g0 g1 g2 g3
    obtain ⟨X, e0, _, _⟩ := DataW.trod_int Try.underlying3 g0
    obtain ⟨Y, e1, _, _⟩ := DataW.trod_int Try.underlying3 g1
    obtain ⟨K, e2, _, _⟩ := DataW.trod_int Try.underlying3 g2
    obtain ⟨J, e3, _, _⟩ := DataW.trod_int Try.underlying3 g3
    obtain rfl : c0 = _ := by simpa using e0
    obtain rfl : c1 = _ := by simpa using e1
    obtain rfl : c2 = _ := by simpa using e2
    obtain rfl : c3 = _ := by simpa using e3
    rcases open_slice1 Try.underlying24 cellsFloat h1 with ⟨hc, hd⟩ | ⟨a, len, cap, m', n', V, D, Pl, hc, _, hl, _, hm, hd, hV⟩
    · obtain rfl : c4 = _ := by simpa using hc
      exact ⟨X, Y, K, J, none, 0, 0, [], rfl, rfl, Rd.nil _ _, by omega⟩
    · obtain rfl : c4 = _ := by simpa using hc
      simp only [if_true] at hm
      subst hm
      obtain ⟨f, hff⟩ := choose_lt (α := Nat) (n := len) (p := fun i b => V i = .float .f32 b) (fun i hi => by
        obtain ⟨b, hb⟩ := trod_flo Try.underlying27 (hV i (by omega)).2
        exact ⟨b, by simpa using hb⟩)
      have hw : (len + (m' - len)) * 4 ≤ reachBytes := by
        refine hsz _ ?_
        rw [hd]
        simp [DataW.weights, DataW.weightsEach, Try.underlying26, Try.underlying24, bytesFloat]
      refine ⟨X, Y, K, J, some a, len, m', (List.range len).map f, rfl, by simp, ?_, by simp only [reachBytes] at hw; omega⟩
      intro hne
      have hpos : 0 < len := by
        rcases Nat.eq_zero_or_pos len with h | h
        · subst h; exact absurd rfl hne
        · exact h
      refine ⟨a, rfl, ?_, ?_⟩
      · have := cell_lt (hV 0 (by omega)).1
        rwa [add_block] at this
      · intro j u hu
        have hj : j < len := by
          have := (List.getElem?_eq_some_iff.1 hu).1
          simpa [flt] using this
        simp [flt, hj] at hu
        rw [(hV j (by omega)).1, hff j hj, hu]
set_option maxRecDepth 100000 in
theorem open_region {spare : Nat → Bool} {held : Bool} {r : Reach} {b0 : Nat} {v : Value} {d : DataW H} {p : List MemPlace} (hv : Value.okWide Try.prog W r b0 23 v)
    (h : DataW.Trod enc Try.prog W base spare held 23 v d p) : ∃ X Y K J : Int, v = .agg #[.int .i64 X, .int .i64 Y, .int .i64 K, .int .i64 J] := by
  obtain ⟨cs, rfl, hcs⟩ := okWide_struct Try.underlying23 hv
  rw [cellsRegion] at hcs
  obtain ⟨L⟩ := cs
  match L, hcs with
  | [c0, c1, c2, c3], _ =>
    obtain ⟨fuel, hf⟩ := h
    obtain ⟨r0, r1, r2, r3, m, hx0, _, g0, g1, g2, g3⟩ := trod_struct4 Try.underlying23 hf
    simp [Value.cells, cellsInt] at g0 g1 g2 g3
    obtain ⟨X, e0, _, _⟩ := DataW.trod_int Try.underlying3 g0
    obtain ⟨Y, e1, _, _⟩ := DataW.trod_int Try.underlying3 g1
    obtain ⟨K, e2, _, _⟩ := DataW.trod_int Try.underlying3 g2
    obtain ⟨J, e3, _, _⟩ := DataW.trod_int Try.underlying3 g3
    obtain rfl : c0 = _ := by simpa using e0
    obtain rfl : c1 = _ := by simpa using e1
    obtain rfl : c2 = _ := by simpa using e2
    obtain rfl : c3 = _ := by simpa using e3
    exact ⟨X, Y, K, J, rfl⟩

theorem one_flo {spare : Nat → Bool} {held : Bool} {n : Nat} {v : Value} {y : Option (DataW H × List MemPlace)} (h : DataW.trod enc Try.prog W base spare held n 27 [v] = y) (hy : y.isSome = true) : ∃ b, v = .float .f32 b := by
  obtain ⟨z, rfl⟩ := Option.isSome_iff_exists.1 hy
  obtain ⟨b, e⟩ := trod_flo Try.underlying27 h
  exact ⟨b, by simpa using e⟩
theorem one_int {spare : Nat → Bool} {held : Bool} {n : Nat} {v : Value} {y : Option (DataW H × List MemPlace)} (h : DataW.trod enc Try.prog W base spare held n 3 [v] = y) (hy : y.isSome = true) : ∃ b, v = .int .i64 b := by
  obtain ⟨z, rfl⟩ := Option.isSome_iff_exists.1 hy
  obtain ⟨x, e, _, _⟩ := DataW.trod_int Try.underlying3 h
  exact ⟨x, by simpa using e⟩

theorem cellsCarving : Try.prog.cellsOf 52 = 4 := by kernel_rfl
set_option maxRecDepth 100000 in
theorem open_carving {spare : Nat → Bool} {held : Bool} {r : Reach} {b0 : Nat} {v : Value} {d : DataW H} {p : List MemPlace} (hv : Value.okWide Try.prog W r b0 52 v)
    (h : DataW.Trod enc Try.prog W base spare held 52 v d p) : ∃ (a b c : Nat) (e : Int), v = .agg #[.float .f32 a, .float .f32 b, .float .f32 c, .int .i64 e] := by
  obtain ⟨v0, v1, v2, v3, y0, y1, y2, y3, n, rfl, rfl, rfl, h0, h1, h2, h3⟩ := open_agg4 Try.underlying52 (by kernel_rfl) cellsCarving hv h
  obtain ⟨a, rfl⟩ := one_flo h0 rfl
  obtain ⟨b, rfl⟩ := one_flo h1 rfl
  obtain ⟨c, rfl⟩ := one_flo h2 rfl
  obtain ⟨e, rfl⟩ := one_int h3 rfl
  exact ⟨a, b, c, e, rfl⟩
theorem cellsSnow : Try.prog.cellsOf 66 = 4 := by kernel_rfl
set_option maxRecDepth 100000 in
theorem open_snow {spare : Nat → Bool} {held : Bool} {r : Reach} {b0 : Nat} {v : Value} {d : DataW H} {p : List MemPlace} (hv : Value.okWide Try.prog W r b0 66 v)
    (h : DataW.Trod enc Try.prog W base spare held 66 v d p) : ∃ (a b c e : Nat), v = .agg #[.float .f32 a, .float .f32 b, .float .f32 c, .float .f32 e] := by
  obtain ⟨v0, v1, v2, v3, y0, y1, y2, y3, n, rfl, rfl, rfl, h0, h1, h2, h3⟩ := open_agg4 Try.underlying66 (by kernel_rfl) cellsSnow hv h
  obtain ⟨a, rfl⟩ := one_flo h0 rfl
  obtain ⟨b, rfl⟩ := one_flo h1 rfl
  obtain ⟨c, rfl⟩ := one_flo h2 rfl
  obtain ⟨e, rfl⟩ := one_flo h3 rfl
  exact ⟨a, b, c, e, rfl⟩
end
end Go.Proofs.Ytinohfgokpbcdaa
namespace Go.Proofs.Ytinohfgokpbcdaa
open Go.RowKit
attribute [local go_sem ↓] Go.wp_at_zero Go.wp_at_succ
attribute [local go_sem] run_store_float

theorem own_neM {w : World} {b b' e1 e2 s1 s2 n1 n2 : Nat} {v1 v2 : Value} {x1 x2 : List Value} (h1 : w.ownsRow b e1 s1 v1 n1 x1) (h2 : w.ownsRow b' e2 s2 v2 n2 x2) (he : e1 ≠ e2) : v2.ownBlock = none ∨ v2.ownBlock ≠ v1.ownBlock := by
  rcases h2.2 with ⟨rfl, _⟩ | ⟨g, cap, cur, rfl, _, hg, _⟩
  · exact .inl rfl
  · right
    rcases h1.2 with ⟨rfl, _⟩ | ⟨g', cap', cur', rfl, _, hg', _⟩
    · intro h
      cases h
    · intro h
      simp only [Value.ownBlock, Option.some.injEq] at h
      subst h
      rw [hg] at hg'
      simp only [Option.some.injEq, Obj.cells.injEq] at hg'
      exact he hg'.2.1.symm
theorem Rd.of_blockM {w : World} {g : Nat} {t : TypeId} {cs : Array Value} (h : Bk w g t cs) : Rd w (some ⟨g, 0, none⟩) cs.toList := fun _ => ⟨_, rfl, h.lt, fun j u hu => by
  rw [lit_add, h.cell]
  simpa using hu⟩
set_option maxRecDepth 100000 in
set_option maxHeartbeats 6400000 in
theorem snow_bad_walk (X Y W H : Int) (N : Nat) (A : Option Addr) (c : Nat) (l : List Nat) (a b c1 d wm : Nat) (w : World) (hl : l.length = N) (hV : Rd w A (flt l)) (hb : N ≤ 140737488351232) (hE : snowA X Y W H l a b c1 d ≠ 0) :
    Calls Try.prog 7 #[.agg #[.int .i64 X, .int .i64 Y, .int .i64 W, .int .i64 H, .slice A N c], .agg #[.float .f32 a, .float .f32 b, .float .f32 c1, .float .f32 d], .float .f32 wm] w fun e w' => e = .returned (.bool true) ∧ Ext w w' := by
  have HB := fun (w : World) (h : Rd w A (flt l)) => hidA (Snow_bad X Y W H N A c l a b c1 d w hl h hb hE)
  have HNu := fun (D : Option Addr) (w : World) (h : Rd w D (flt [a, b, c1, d])) => hidA (numberError_any D 4 4 [a, b, c1, d] w rfl h (by omega))
  have HE := fun (w : World) (h : Rd w A (flt l)) => hidA (fieldError_any X Y W H A N c l w hl h (by omega))
  have HZ := fun (w : World) => hidA (empty_zero w)
  have HW := fun (w : World) => hidA (flows_any w)
  have HC := fun (w : World) => hidA (checkSnow_any a b c1 d w)
  have HWh := fun (b : Bool) (x : Int) (w : World) => hidA (when_any b x w)
  have HS := fun (x y : Int) (B : Option Addr) (w : World) (h : Rd w B ([x, y].map (.int .i64))) => hidA (first_any B 2 2 [x, y] w rfl h (by omega))
  have hb1 : (FloatKind.f32.format.order b 0 == some .lt) = lt b 0 := rfl
  have hb2 : (FloatKind.f32.format.order c1 0 == some .lt) = lt c1 0 := rfl
  have hb3 : (FloatKind.f32.format.order d 0 == some .lt) = lt d 0 := rfl
  have hown : snowE a b c1 d = if numE [a, b, c1, d] ≠ 0 then numE [a, b, c1, d] else if lt b 0 = true ∨ lt c1 0 = true ∨ lt d 0 = true then 3 else 0 := rfl
  have hf2 : ∀ x y : Int, firstE [x, y] = if x ≠ 0 then x else y := first_two
  have HF2 := hidA hf2
  have HS0 := hidA (True.intro)
  have hfe : firstE [fieldE X Y W H l, snowE a b c1 d] = snowA X Y W H l a b c1 d := by rw [hf2]; rfl
  have HFE := hidA hfe
  have hE' : (snowA X Y W H l a b c1 d != 0) = true := by simpa using hE
  generalize snowA X Y W H l a b c1 d = E at *
  generalize fieldE X Y W H l = f1 at *
  generalize snowE a b c1 d = own at *
  generalize numE [a, b, c1, d] = n4 at *
  generalize lt b 0 = B1 at *
  generalize lt c1 0 = B2 at *
  generalize lt d 0 = B3 at *
  have Hown : Hid (own = firstE [n4, if B1 = true ∨ B2 = true ∨ B3 = true then 3 else 0]) := by show own = _; rw [hf2, hown]
  clear hE hl hb hf2 hown hfe HF2
  go_enter Try.func7, Try.ntmps7
  go_upto_region 2 with (go_at_call 40; refine ((HB _ (hV.ext (by repeat (first | (with_reducible exact Ext.refl _) | (with_reducible assumption) | (with_reducible refine Ext.setCell ?_ (by first | (simp; done) | (simp; omega)) _) | (with_reducible refine Ext.drewN ?_ _) | (with_reducible refine Ext.alloc ?_ _) | (with_reducible refine Ext.drew ?_) | (with_reducible refine Ext.trans ?_ (by assumption)))))).out).mono ?_; rintro e w1 ⟨rfl, hx1⟩)
  have kF : Bk (w1.alloc (.cells #[.int .i64 0, .int .i64 0, .int .i64 0, .int .i64 0, .slice none 0 0] 26)) w.heap.size 26 #[.int .i64 X, .int .i64 Y, .int .i64 W, .int .i64 H, .slice A N c] := (((Bk.new' rfl).alloc _).ext hx1).alloc _
  have kS : Bk (w1.alloc (.cells #[.int .i64 0, .int .i64 0, .int .i64 0, .int .i64 0, .slice none 0 0] 26)) (w.heap.size + 1) 66 #[.float .f32 a, .float .f32 b, .float .f32 c1, .float .f32 d] := ((Bk.new' (by simp)).ext hx1).alloc _
  have kG : Bk (w1.alloc (.cells #[.int .i64 0, .int .i64 0, .int .i64 0, .int .i64 0, .slice none 0 0] 26)) w1.heap.size 26 #[.int .i64 0, .int .i64 0, .int .i64 0, .int .i64 0, .slice none 0 0] := Bk.new' rfl
  have hx2 : Ext w (w1.alloc (.cells #[.int .i64 0, .int .i64 0, .int .i64 0, .int .i64 0, .slice none 0 0] 26)) := ((((Ext.refl w).alloc _).alloc _).trans hx1).alloc _
  clear hx1 HB
  generalize w1.alloc (.cells #[.int .i64 0, .int .i64 0, .int .i64 0, .int .i64 0, .slice none 0 0] 26) = w2 at *
  generalize w1.heap.size = hg at *
  generalize w.heap.size + 1 = hs at *
  have s0 : ∀ w', Ext w2 w' → w'.cell? ⟨hs, 0, none⟩ = some (.float .f32 a) := fun w' h => (kS.ext h).cell 0
  have s1 : ∀ w', Ext w2 w' → w'.cell? ⟨hs, 1, none⟩ = some (.float .f32 b) := fun w' h => (kS.ext h).cell 1
  have s2 : ∀ w', Ext w2 w' → w'.cell? ⟨hs, 2, none⟩ = some (.float .f32 c1) := fun w' h => (kS.ext h).cell 2
  have s3 : ∀ w', Ext w2 w' → w'.cell? ⟨hs, 3, none⟩ = some (.float .f32 d) := fun w' h => (kS.ext h).cell 3
  go_cut [9] from 29 to 54 (fun s9 wx => s9 = Value.int .i64 own ∧ Ext w2 wx)
  case first =>
    clear HE HS0 HW HC
    have hc : B1 = true ∨ (B1 = false ∧ B2 = true) ∨ (B1 = false ∧ B2 = false ∧ B3 = true) ∨ (B1 = false ∧ B2 = false ∧ B3 = false) := by
      cases B1 <;> cases B2 <;> cases B3 <;> simp
    rcases hc with rfl | ⟨rfl, rfl⟩ | ⟨rfl, rfl, rfl⟩ | ⟨rfl, rfl, rfl⟩
    · have hv : Hid (firstE [n4, 3] = own) := by show _ = _; rw [Hown.out]; simp
      clear Hown
      refine wp_region_noPanic ?_
      refine wp_region_held_drew (S := fun w' => Ext w2 w') (by kernel_rfl) ?_ (fun hHeld => ?_)
      · (repeat (first | exact Ext.refl _ | assumption | refine Ext.setCell ?_ (by first | (simp; done) | (simp; omega)) _ | refine Ext.drewN ?_ _ | refine Ext.alloc ?_ _ | refine Ext.drew ?_ | refine Ext.trans ?_ (by assumption)))
      refine wpAnyH_take (i := 0) (oi := ?o1x0) (v := ?v1x0) ?hi1x0 (by kernel_rfl) ?hf1x0 ?hr1x0 (fun _ _ _ h => h) ?hy1x0 (by assumption) ?rest1x0
      case hi1x0 => (simp only [List.getElem?_toArray, List.getElem?_cons_zero]; exact rfl)
      case hf1x0 => kernel_rfl
      case hr1x0 => kernel_rfl
      case hy1x0 => (refine Or.inl ⟨by rfl, ?_⟩; intro w hSw; (try dsimp only at hSw); go_simp; try with_reducible rfl)
      simp only [put_mk, List.set_cons_succ, List.set_cons_zero]
      refine wpAnyH_take (i := 1) (oi := ?o1x1) (v := ?v1x1) ?hi1x1 (by kernel_rfl) ?hf1x1 ?hr1x1 (fun _ _ _ h => h) ?hy1x1 (by assumption) ?rest1x1
      case hi1x1 => (simp only [List.getElem?_toArray, List.getElem?_cons_succ, List.getElem?_cons_zero]; exact rfl)
      case hf1x1 => kernel_rfl
      case hr1x1 => kernel_rfl
      case hy1x1 => (refine Or.inl ⟨by rfl, ?_⟩; intro w hSw; (try dsimp only at hSw); go_simp; try with_reducible rfl)
      simp only [put_mk, List.set_cons_succ, List.set_cons_zero]
      refine wpAnyH_take (i := 2) (oi := ?o1x2) (v := ?v1x2) ?hi1x2 (by kernel_rfl) ?hf1x2 ?hr1x2 (fun _ _ _ h => h) ?hy1x2 (by assumption) ?rest1x2
      case hi1x2 => (simp only [List.getElem?_toArray, List.getElem?_cons_succ, List.getElem?_cons_zero]; exact rfl)
      case hf1x2 => kernel_rfl
      case hr1x2 => kernel_rfl
      case hy1x2 => (refine Or.inl ⟨by rfl, ?_⟩; intro w hSw; (try dsimp only at hSw); go_simp; try with_reducible rfl)
      simp only [put_mk, List.set_cons_succ, List.set_cons_zero]
      refine wpAnyH_take (i := 3) (oi := ?o1x3) (v := ?v1x3) ?hi1x3 (by kernel_rfl) ?hf1x3 ?hr1x3 (fun _ _ _ h => h) ?hy1x3 (by assumption) ?rest1x3
      case hi1x3 => (simp only [List.getElem?_toArray, List.getElem?_cons_succ, List.getElem?_cons_zero]; exact rfl)
      case hf1x3 => kernel_rfl
      case hr1x3 => kernel_rfl
      case hy1x3 => (refine Or.inl ⟨by rfl, ?_⟩; intro w hSw; (try dsimp only at hSw); go_simp; try with_reducible rfl)
      simp only [put_mk, List.set_cons_succ, List.set_cons_zero]
      refine wpAnyH_take (i := 4) (oi := ?o1x4) (v := ?v1x4) ?hi1x4 (by kernel_rfl) ?hf1x4 ?hr1x4 (fun _ _ _ h => h) ?hy1x4 (by assumption) ?rest1x4
      case hi1x4 => (simp only [List.getElem?_toArray, List.getElem?_cons_succ, List.getElem?_cons_zero]; exact rfl)
      case hf1x4 => kernel_rfl
      case hr1x4 => kernel_rfl
      case hy1x4 => (refine Or.inl ⟨by rfl, ?_⟩; intro w hSw; (try dsimp only at hSw); go_simp; try with_reducible rfl)
      simp only [put_mk, List.set_cons_succ, List.set_cons_zero]
      refine wpAnyH_take (i := 5) (oi := ?o1x5) (v := ?v1x5) ?hi1x5 (by kernel_rfl) ?hf1x5 ?hr1x5 (fun _ _ _ h => h) ?hy1x5 (by assumption) ?rest1x5
      case hi1x5 => (simp only [List.getElem?_toArray, List.getElem?_cons_succ, List.getElem?_cons_zero]; exact rfl)
      case hf1x5 => kernel_rfl
      case hr1x5 => kernel_rfl
      case hy1x5 => (refine Or.inl ⟨by rfl, ?_⟩; intro w hSw; (try dsimp only at hSw); go_simp; try with_reducible rfl)
      simp only [put_mk, List.set_cons_succ, List.set_cons_zero]
      refine wpAnyH_take (i := 6) (oi := ?o1x6) (v := ?v1x6) ?hi1x6 (by kernel_rfl) ?hf1x6 ?hr1x6 (fun _ _ _ h => h) ?hy1x6 (by assumption) ?rest1x6
      case hi1x6 => (simp only [List.getElem?_toArray, List.getElem?_cons_succ, List.getElem?_cons_zero]; exact rfl)
      case hf1x6 => kernel_rfl
      case hr1x6 => kernel_rfl
      case hy1x6 => (refine Or.inl ⟨by rfl, ?_⟩; intro w hSw; (try dsimp only at hSw); go_simp; try with_reducible rfl)
      simp only [put_mk, List.set_cons_succ, List.set_cons_zero]
      refine wpAnyH_take (i := 7) (oi := ?o1x7) (v := ?v1x7) ?hi1x7 (by kernel_rfl) ?hf1x7 ?hr1x7 (fun _ _ _ h => h) ?hy1x7 (by assumption) ?rest1x7
      case hi1x7 => (simp only [List.getElem?_toArray, List.getElem?_cons_succ, List.getElem?_cons_zero]; exact rfl)
      case hf1x7 => kernel_rfl
      case hr1x7 => kernel_rfl
      case hy1x7 => (refine Or.inl ⟨by rfl, ?_⟩; intro w hSw; (try dsimp only at hSw); go_simp; try with_reducible rfl)
      simp only [put_mk, List.set_cons_succ, List.set_cons_zero]
      refine wpAnyH_take (i := 10) (oi := ?o1x10) (v := ?v1x10) ?hi1x10 (by kernel_rfl) ?hf1x10 ?hr1x10 (fun _ _ _ h => h) ?hy1x10 (by assumption) ?rest1x10
      case hi1x10 => (simp only [List.getElem?_toArray, List.getElem?_cons_succ, List.getElem?_cons_zero]; exact rfl)
      case hf1x10 => kernel_rfl
      case hr1x10 => kernel_rfl
      case hy1x10 => (refine Or.inl ⟨by rfl, ?_⟩; intro w hSw; (try dsimp only at hSw); go_simp; try with_reducible rfl)
      simp only [put_mk, List.set_cons_succ, List.set_cons_zero]
      refine wpAnyH_take (i := 11) (oi := ?o1x11) (v := ?v1x11) ?hi1x11 (by kernel_rfl) ?hf1x11 ?hr1x11 (fun _ _ _ h => h) ?hy1x11 (by assumption) ?rest1x11
      case hi1x11 => (simp only [List.getElem?_toArray, List.getElem?_cons_succ, List.getElem?_cons_zero]; exact rfl)
      case hf1x11 => kernel_rfl
      case hr1x11 => kernel_rfl
      case hy1x11 => (refine Or.inl ⟨by rfl, ?_⟩; intro w hSw; (try dsimp only at hSw); go_simp; try with_reducible rfl)
      simp only [put_mk, List.set_cons_succ, List.set_cons_zero]
      refine wpAnyH_take (i := 12) (oi := ?o1x12) (v := ?v1x12) ?hi1x12 (by kernel_rfl) ?hf1x12 ?hr1x12 (fun _ _ _ h => h) ?hy1x12 (by assumption) ?rest1x12
      case hi1x12 => (simp only [List.getElem?_toArray, List.getElem?_cons_succ, List.getElem?_cons_zero]; exact rfl)
      case hf1x12 => kernel_rfl
      case hr1x12 => kernel_rfl
      case hy1x12 => (refine Or.inl ⟨by rfl, ?_⟩; intro w hSw; (try dsimp only at hSw); go_simp; try with_reducible rfl)
      simp only [put_mk, List.set_cons_succ, List.set_cons_zero]
      refine wpAnyH_ready (rs := [8]) (by kernel_rfl) (by simp) ?_
      refine AllReadyH.cons (o := ?o1x8) ?hi1x8 (fun K hK => ?_) AllReadyH.nil
      case hi1x8 => (simp only [List.getElem?_toArray, List.getElem?_cons_succ, List.getElem?_cons_zero]; exact rfl)
      go_simp
      refine hK.out _ _ ?_ (fun hHeld => ?_)
      · (repeat (first | exact Ext.refl _ | assumption | refine Ext.setCell ?_ (by first | (simp; done) | (simp; omega)) _ | refine Ext.drewN ?_ _ | refine Ext.alloc ?_ _ | refine Ext.drew ?_ | refine Ext.trans ?_ (by assumption)))
      clear hK K
      refine wpAnyH_ready (rs := [9]) (by kernel_rfl) (by simp) ?_
      refine AllReadyH.cons (o := ?o1x9) ?hi1x9 (fun K hK => ?_) AllReadyH.nil
      case hi1x9 => (simp only [List.getElem?_toArray, List.getElem?_cons_succ, List.getElem?_cons_zero]; exact rfl)
      go_simp
      refine ((HNu _ _ (Rd.ext (Rd.new (by first | rfl | simp) (by first | rfl | simp)) (Ext.refl _).drew)).out).mono ?_
      rintro e w3 ⟨rfl, hw3⟩
      have hx3 : Ext w2 w3 := by rw [← hw3]; (repeat (first | exact Ext.refl _ | assumption | refine Ext.setCell ?_ (by first | (simp; done) | (simp; omega)) _ | refine Ext.drewN ?_ _ | refine Ext.alloc ?_ _ | refine Ext.drew ?_ | refine Ext.trans ?_ (by assumption)))
      clear hw3
      refine hK.out _ _ ?_ (fun hHeld => ?_)
      · (repeat (first | exact Ext.refl _ | assumption | refine Ext.setCell ?_ (by first | (simp; done) | (simp; omega)) _ | refine Ext.drewN ?_ _ | refine Ext.alloc ?_ _ | refine Ext.drew ?_ | refine Ext.trans ?_ (by assumption)))
      clear hK K
      refine wpAnyH_take (i := 13) (oi := ?o1x13) (v := ?v1x13) ?hi1x13 (by kernel_rfl) ?hf1x13 ?hr1x13 (fun _ _ _ h => h) ?hy1x13 (by assumption) ?rest1x13
      case hi1x13 => (simp only [List.getElem?_toArray, List.getElem?_cons_succ, List.getElem?_cons_zero]; exact rfl)
      case hf1x13 => kernel_rfl
      case hr1x13 => kernel_rfl
      case hy1x13 => (refine Or.inl ⟨by rfl, ?_⟩; intro w hSw; (try dsimp only at hSw); go_simp; try with_reducible rfl)
      simp only [put_mk, List.set_cons_succ, List.set_cons_zero]
      refine wpAnyH_take (i := 14) (oi := ?o1x14) (v := undef) ?hi1x14 (by kernel_rfl) ?hf1x14 ?hr1x14 (fun _ _ _ h => h) ?hy1x14 (by assumption) ?rest1x14
      case hi1x14 => (simp only [List.getElem?_toArray, List.getElem?_cons_succ, List.getElem?_cons_zero]; exact rfl)
      case hf1x14 => kernel_rfl
      case hr1x14 => kernel_rfl
      case hy1x14 => exact Or.inr ⟨by rfl, rfl⟩
      simp only [put_mk, List.set_cons_succ, List.set_cons_zero]
      refine wpAnyH_take (i := 15) (oi := ?o1x15) (v := undef) ?hi1x15 (by kernel_rfl) ?hf1x15 ?hr1x15 (fun _ _ _ h => h) ?hy1x15 (by assumption) ?rest1x15
      case hi1x15 => (simp only [List.getElem?_toArray, List.getElem?_cons_succ, List.getElem?_cons_zero]; exact rfl)
      case hf1x15 => kernel_rfl
      case hr1x15 => kernel_rfl
      case hy1x15 => exact Or.inr ⟨by rfl, rfl⟩
      simp only [put_mk, List.set_cons_succ, List.set_cons_zero]
      refine wpAnyH_take (i := 16) (oi := ?o1x16) (v := undef) ?hi1x16 (by kernel_rfl) ?hf1x16 ?hr1x16 (fun _ _ _ h => h) ?hy1x16 (by assumption) ?rest1x16
      case hi1x16 => (simp only [List.getElem?_toArray, List.getElem?_cons_succ, List.getElem?_cons_zero]; exact rfl)
      case hf1x16 => kernel_rfl
      case hr1x16 => kernel_rfl
      case hy1x16 => exact Or.inr ⟨by rfl, rfl⟩
      simp only [put_mk, List.set_cons_succ, List.set_cons_zero]
      refine wpAnyH_take (i := 17) (oi := ?o1x17) (v := ?v1x17) ?hi1x17 (by kernel_rfl) ?hf1x17 ?hr1x17 (fun _ _ _ h => h) ?hy1x17 (by assumption) ?rest1x17
      case hi1x17 => (simp only [List.getElem?_toArray, List.getElem?_cons_succ, List.getElem?_cons_zero]; exact rfl)
      case hf1x17 => kernel_rfl
      case hr1x17 => kernel_rfl
      case hy1x17 => (refine Or.inl ⟨by rfl, ?_⟩; intro w hSw; (try dsimp only at hSw); go_simp; try with_reducible rfl)
      simp only [put_mk, List.set_cons_succ, List.set_cons_zero]
      refine wpAnyH_take (i := 18) (oi := ?o1x18) (v := ?v1x18) ?hi1x18 (by kernel_rfl) ?hf1x18 ?hr1x18 (fun _ _ _ h => h) ?hy1x18 (by assumption) ?rest1x18
      case hi1x18 => (simp only [List.getElem?_toArray, List.getElem?_cons_succ, List.getElem?_cons_zero]; exact rfl)
      case hf1x18 => kernel_rfl
      case hr1x18 => kernel_rfl
      case hy1x18 => (refine Or.inl ⟨by rfl, ?_⟩; intro w hSw; (try dsimp only at hSw); go_simp; try with_reducible rfl)
      simp only [put_mk, List.set_cons_succ, List.set_cons_zero]
      refine wpAnyH_take (i := 19) (oi := ?o1x19) (v := undef) ?hi1x19 (by kernel_rfl) ?hf1x19 ?hr1x19 (fun _ _ _ h => h) ?hy1x19 (by assumption) ?rest1x19
      case hi1x19 => (simp only [List.getElem?_toArray, List.getElem?_cons_succ, List.getElem?_cons_zero]; exact rfl)
      case hf1x19 => kernel_rfl
      case hr1x19 => kernel_rfl
      case hy1x19 => exact Or.inr ⟨by rfl, rfl⟩
      simp only [put_mk, List.set_cons_succ, List.set_cons_zero]
      refine wpAnyH_take (i := 20) (oi := ?o1x20) (v := undef) ?hi1x20 (by kernel_rfl) ?hf1x20 ?hr1x20 (fun _ _ _ h => h) ?hy1x20 (by assumption) ?rest1x20
      case hi1x20 => (simp only [List.getElem?_toArray, List.getElem?_cons_succ, List.getElem?_cons_zero]; exact rfl)
      case hf1x20 => kernel_rfl
      case hr1x20 => kernel_rfl
      case hy1x20 => exact Or.inr ⟨by rfl, rfl⟩
      simp only [put_mk, List.set_cons_succ, List.set_cons_zero]
      refine wpAnyH_take (i := 21) (oi := ?o1x21) (v := undef) ?hi1x21 (by kernel_rfl) ?hf1x21 ?hr1x21 (fun _ _ _ h => h) ?hy1x21 (by assumption) ?rest1x21
      case hi1x21 => (simp only [List.getElem?_toArray, List.getElem?_cons_succ, List.getElem?_cons_zero]; exact rfl)
      case hf1x21 => kernel_rfl
      case hr1x21 => kernel_rfl
      case hy1x21 => exact Or.inr ⟨by rfl, rfl⟩
      simp only [put_mk, List.set_cons_succ, List.set_cons_zero]
      refine wpAnyH_take (i := 22) (oi := ?o1x22) (v := ?v1x22) ?hi1x22 (by kernel_rfl) ?hf1x22 ?hr1x22 (fun _ _ _ h => h) ?hy1x22 (by assumption) ?rest1x22
      case hi1x22 => (simp only [List.getElem?_toArray, List.getElem?_cons_succ, List.getElem?_cons_zero]; exact rfl)
      case hf1x22 => kernel_rfl
      case hr1x22 => kernel_rfl
      case hy1x22 => (refine Or.inl ⟨by rfl, ?_⟩; intro w hSw; (try dsimp only at hSw); go_simp; try with_reducible rfl)
      simp only [put_mk, List.set_cons_succ, List.set_cons_zero]
      refine wpAnyH_ready (rs := [23]) (by kernel_rfl) (by simp) ?_
      refine AllReadyH.cons (o := ?o1x23) ?hi1x23 (fun K hK => ?_) AllReadyH.nil
      case hi1x23 => (simp only [List.getElem?_toArray, List.getElem?_cons_succ, List.getElem?_cons_zero]; exact rfl)
      go_simp
      refine ((HWh _ _ _).out).mono ?_
      rintro e w4 ⟨rfl, rfl⟩
      refine hK.out _ _ ?_ (fun hHeld => ?_)
      · (repeat (first | exact Ext.refl _ | assumption | refine Ext.setCell ?_ (by first | (simp; done) | (simp; omega)) _ | refine Ext.drewN ?_ _ | refine Ext.alloc ?_ _ | refine Ext.drew ?_ | refine Ext.trans ?_ (by assumption)))
      clear hK K
      refine wpAnyH_ready (rs := [24]) (by kernel_rfl) (by simp) ?_
      refine AllReadyH.cons (o := ?o1x24) ?hi1x24 (fun K hK => ?_) AllReadyH.nil
      case hi1x24 => (simp only [List.getElem?_toArray, List.getElem?_cons_succ, List.getElem?_cons_zero]; exact rfl)
      go_simp
      refine hK.out _ _ ?_ (fun hHeld => ?_)
      · (repeat (first | exact Ext.refl _ | assumption | refine Ext.setCell ?_ (by first | (simp; done) | (simp; omega)) _ | refine Ext.drewN ?_ _ | refine Ext.alloc ?_ _ | refine Ext.drew ?_ | refine Ext.trans ?_ (by assumption)))
      clear hK K
      refine wpAnyH_ready (rs := [25]) (by kernel_rfl) (by simp) ?_
      refine AllReadyH.cons (o := ?o1x25) ?hi1x25 (fun K hK => ?_) AllReadyH.nil
      case hi1x25 => (simp only [List.getElem?_toArray, List.getElem?_cons_succ, List.getElem?_cons_zero]; exact rfl)
      go_simp
      refine ((HS _ _ _ _ (Rd.new (by first | rfl | simp) (by first | rfl | simp))).out).mono ?_
      rintro e w5 ⟨rfl, hw5⟩
      have hx5 : Ext w2 w5 := by rw [← hw5]; (repeat (first | exact Ext.refl _ | assumption | refine Ext.setCell ?_ (by first | (simp; done) | (simp; omega)) _ | refine Ext.drewN ?_ _ | refine Ext.alloc ?_ _ | refine Ext.drew ?_ | refine Ext.trans ?_ (by assumption)))
      clear hw5
      refine hK.out _ _ ?_ (fun hHeld => ?_)
      · (repeat (first | exact Ext.refl _ | assumption | refine Ext.setCell ?_ (by first | (simp; done) | (simp; omega)) _ | refine Ext.drewN ?_ _ | refine Ext.alloc ?_ _ | refine Ext.drew ?_ | refine Ext.trans ?_ (by assumption)))
      clear hK K
      refine wpAnyH_take (i := 26) (oi := ?o1x26) (v := ?v1x26) ?hi1x26 (by kernel_rfl) ?hf1x26 ?hr1x26 (fun _ _ _ h => h) ?hy1x26 (by assumption) ?rest1x26
      case hi1x26 => (simp only [List.getElem?_toArray, List.getElem?_cons_succ, List.getElem?_cons_zero]; exact rfl)
      case hf1x26 => kernel_rfl
      case hr1x26 => kernel_rfl
      case hy1x26 => (refine Or.inl ⟨by rfl, ?_⟩; intro w hSw; (try dsimp only at hSw); go_simp; try with_reducible rfl)
      simp only [put_mk, List.set_cons_succ, List.set_cons_zero]
      refine wpAnyH_done (by kernel_rfl) ?_ _
      refine NoPanic.normal ?_
      go_wp2_with fail
      go_meet
      case rel => exact ⟨by rw [← hv.out], (by repeat (first | exact Ext.refl _ | assumption | refine Ext.setCell ?_ (by first | (simp; done) | (simp; omega)) _ | refine Ext.drewN ?_ _ | refine Ext.alloc ?_ _ | refine Ext.drew ?_ | refine Ext.trans ?_ (by assumption)))⟩
    · have hv : Hid (firstE [n4, 3] = own) := by show _ = _; rw [Hown.out]; simp
      clear Hown
      refine wp_region_noPanic ?_
      refine wp_region_held_drew (S := fun w' => Ext w2 w') (by kernel_rfl) ?_ (fun hHeld => ?_)
      · (repeat (first | exact Ext.refl _ | assumption | refine Ext.setCell ?_ (by first | (simp; done) | (simp; omega)) _ | refine Ext.drewN ?_ _ | refine Ext.alloc ?_ _ | refine Ext.drew ?_ | refine Ext.trans ?_ (by assumption)))
      refine wpAnyH_take (i := 0) (oi := ?o2x0) (v := ?v2x0) ?hi2x0 (by kernel_rfl) ?hf2x0 ?hr2x0 (fun _ _ _ h => h) ?hy2x0 (by assumption) ?rest2x0
      case hi2x0 => (simp only [List.getElem?_toArray, List.getElem?_cons_zero]; exact rfl)
      case hf2x0 => kernel_rfl
      case hr2x0 => kernel_rfl
      case hy2x0 => (refine Or.inl ⟨by rfl, ?_⟩; intro w hSw; (try dsimp only at hSw); go_simp; try with_reducible rfl)
      simp only [put_mk, List.set_cons_succ, List.set_cons_zero]
      refine wpAnyH_take (i := 1) (oi := ?o2x1) (v := ?v2x1) ?hi2x1 (by kernel_rfl) ?hf2x1 ?hr2x1 (fun _ _ _ h => h) ?hy2x1 (by assumption) ?rest2x1
      case hi2x1 => (simp only [List.getElem?_toArray, List.getElem?_cons_succ, List.getElem?_cons_zero]; exact rfl)
      case hf2x1 => kernel_rfl
      case hr2x1 => kernel_rfl
      case hy2x1 => (refine Or.inl ⟨by rfl, ?_⟩; intro w hSw; (try dsimp only at hSw); go_simp; try with_reducible rfl)
      simp only [put_mk, List.set_cons_succ, List.set_cons_zero]
      refine wpAnyH_take (i := 2) (oi := ?o2x2) (v := ?v2x2) ?hi2x2 (by kernel_rfl) ?hf2x2 ?hr2x2 (fun _ _ _ h => h) ?hy2x2 (by assumption) ?rest2x2
      case hi2x2 => (simp only [List.getElem?_toArray, List.getElem?_cons_succ, List.getElem?_cons_zero]; exact rfl)
      case hf2x2 => kernel_rfl
      case hr2x2 => kernel_rfl
      case hy2x2 => (refine Or.inl ⟨by rfl, ?_⟩; intro w hSw; (try dsimp only at hSw); go_simp; try with_reducible rfl)
      simp only [put_mk, List.set_cons_succ, List.set_cons_zero]
      refine wpAnyH_take (i := 3) (oi := ?o2x3) (v := ?v2x3) ?hi2x3 (by kernel_rfl) ?hf2x3 ?hr2x3 (fun _ _ _ h => h) ?hy2x3 (by assumption) ?rest2x3
      case hi2x3 => (simp only [List.getElem?_toArray, List.getElem?_cons_succ, List.getElem?_cons_zero]; exact rfl)
      case hf2x3 => kernel_rfl
      case hr2x3 => kernel_rfl
      case hy2x3 => (refine Or.inl ⟨by rfl, ?_⟩; intro w hSw; (try dsimp only at hSw); go_simp; try with_reducible rfl)
      simp only [put_mk, List.set_cons_succ, List.set_cons_zero]
      refine wpAnyH_take (i := 4) (oi := ?o2x4) (v := ?v2x4) ?hi2x4 (by kernel_rfl) ?hf2x4 ?hr2x4 (fun _ _ _ h => h) ?hy2x4 (by assumption) ?rest2x4
      case hi2x4 => (simp only [List.getElem?_toArray, List.getElem?_cons_succ, List.getElem?_cons_zero]; exact rfl)
      case hf2x4 => kernel_rfl
      case hr2x4 => kernel_rfl
      case hy2x4 => (refine Or.inl ⟨by rfl, ?_⟩; intro w hSw; (try dsimp only at hSw); go_simp; try with_reducible rfl)
      simp only [put_mk, List.set_cons_succ, List.set_cons_zero]
      refine wpAnyH_take (i := 5) (oi := ?o2x5) (v := ?v2x5) ?hi2x5 (by kernel_rfl) ?hf2x5 ?hr2x5 (fun _ _ _ h => h) ?hy2x5 (by assumption) ?rest2x5
      case hi2x5 => (simp only [List.getElem?_toArray, List.getElem?_cons_succ, List.getElem?_cons_zero]; exact rfl)
      case hf2x5 => kernel_rfl
      case hr2x5 => kernel_rfl
      case hy2x5 => (refine Or.inl ⟨by rfl, ?_⟩; intro w hSw; (try dsimp only at hSw); go_simp; try with_reducible rfl)
      simp only [put_mk, List.set_cons_succ, List.set_cons_zero]
      refine wpAnyH_take (i := 6) (oi := ?o2x6) (v := ?v2x6) ?hi2x6 (by kernel_rfl) ?hf2x6 ?hr2x6 (fun _ _ _ h => h) ?hy2x6 (by assumption) ?rest2x6
      case hi2x6 => (simp only [List.getElem?_toArray, List.getElem?_cons_succ, List.getElem?_cons_zero]; exact rfl)
      case hf2x6 => kernel_rfl
      case hr2x6 => kernel_rfl
      case hy2x6 => (refine Or.inl ⟨by rfl, ?_⟩; intro w hSw; (try dsimp only at hSw); go_simp; try with_reducible rfl)
      simp only [put_mk, List.set_cons_succ, List.set_cons_zero]
      refine wpAnyH_take (i := 7) (oi := ?o2x7) (v := ?v2x7) ?hi2x7 (by kernel_rfl) ?hf2x7 ?hr2x7 (fun _ _ _ h => h) ?hy2x7 (by assumption) ?rest2x7
      case hi2x7 => (simp only [List.getElem?_toArray, List.getElem?_cons_succ, List.getElem?_cons_zero]; exact rfl)
      case hf2x7 => kernel_rfl
      case hr2x7 => kernel_rfl
      case hy2x7 => (refine Or.inl ⟨by rfl, ?_⟩; intro w hSw; (try dsimp only at hSw); go_simp; try with_reducible rfl)
      simp only [put_mk, List.set_cons_succ, List.set_cons_zero]
      refine wpAnyH_take (i := 10) (oi := ?o2x10) (v := ?v2x10) ?hi2x10 (by kernel_rfl) ?hf2x10 ?hr2x10 (fun _ _ _ h => h) ?hy2x10 (by assumption) ?rest2x10
      case hi2x10 => (simp only [List.getElem?_toArray, List.getElem?_cons_succ, List.getElem?_cons_zero]; exact rfl)
      case hf2x10 => kernel_rfl
      case hr2x10 => kernel_rfl
      case hy2x10 => (refine Or.inl ⟨by rfl, ?_⟩; intro w hSw; (try dsimp only at hSw); go_simp; try with_reducible rfl)
      simp only [put_mk, List.set_cons_succ, List.set_cons_zero]
      refine wpAnyH_take (i := 11) (oi := ?o2x11) (v := ?v2x11) ?hi2x11 (by kernel_rfl) ?hf2x11 ?hr2x11 (fun _ _ _ h => h) ?hy2x11 (by assumption) ?rest2x11
      case hi2x11 => (simp only [List.getElem?_toArray, List.getElem?_cons_succ, List.getElem?_cons_zero]; exact rfl)
      case hf2x11 => kernel_rfl
      case hr2x11 => kernel_rfl
      case hy2x11 => (refine Or.inl ⟨by rfl, ?_⟩; intro w hSw; (try dsimp only at hSw); go_simp; try with_reducible rfl)
      simp only [put_mk, List.set_cons_succ, List.set_cons_zero]
      refine wpAnyH_take (i := 12) (oi := ?o2x12) (v := ?v2x12) ?hi2x12 (by kernel_rfl) ?hf2x12 ?hr2x12 (fun _ _ _ h => h) ?hy2x12 (by assumption) ?rest2x12
      case hi2x12 => (simp only [List.getElem?_toArray, List.getElem?_cons_succ, List.getElem?_cons_zero]; exact rfl)
      case hf2x12 => kernel_rfl
      case hr2x12 => kernel_rfl
      case hy2x12 => (refine Or.inl ⟨by rfl, ?_⟩; intro w hSw; (try dsimp only at hSw); go_simp; try with_reducible rfl)
      simp only [put_mk, List.set_cons_succ, List.set_cons_zero]
      refine wpAnyH_ready (rs := [8]) (by kernel_rfl) (by simp) ?_
      refine AllReadyH.cons (o := ?o2x8) ?hi2x8 (fun K hK => ?_) AllReadyH.nil
      case hi2x8 => (simp only [List.getElem?_toArray, List.getElem?_cons_succ, List.getElem?_cons_zero]; exact rfl)
      go_simp
      refine hK.out _ _ ?_ (fun hHeld => ?_)
      · (repeat (first | exact Ext.refl _ | assumption | refine Ext.setCell ?_ (by first | (simp; done) | (simp; omega)) _ | refine Ext.drewN ?_ _ | refine Ext.alloc ?_ _ | refine Ext.drew ?_ | refine Ext.trans ?_ (by assumption)))
      clear hK K
      refine wpAnyH_ready (rs := [9]) (by kernel_rfl) (by simp) ?_
      refine AllReadyH.cons (o := ?o2x9) ?hi2x9 (fun K hK => ?_) AllReadyH.nil
      case hi2x9 => (simp only [List.getElem?_toArray, List.getElem?_cons_succ, List.getElem?_cons_zero]; exact rfl)
      go_simp
      refine ((HNu _ _ (Rd.ext (Rd.new (by first | rfl | simp) (by first | rfl | simp)) (Ext.refl _).drew)).out).mono ?_
      rintro e w3 ⟨rfl, hw3⟩
      have hx3 : Ext w2 w3 := by rw [← hw3]; (repeat (first | exact Ext.refl _ | assumption | refine Ext.setCell ?_ (by first | (simp; done) | (simp; omega)) _ | refine Ext.drewN ?_ _ | refine Ext.alloc ?_ _ | refine Ext.drew ?_ | refine Ext.trans ?_ (by assumption)))
      clear hw3
      refine hK.out _ _ ?_ (fun hHeld => ?_)
      · (repeat (first | exact Ext.refl _ | assumption | refine Ext.setCell ?_ (by first | (simp; done) | (simp; omega)) _ | refine Ext.drewN ?_ _ | refine Ext.alloc ?_ _ | refine Ext.drew ?_ | refine Ext.trans ?_ (by assumption)))
      clear hK K
      refine wpAnyH_take (i := 13) (oi := ?o2x13) (v := ?v2x13) ?hi2x13 (by kernel_rfl) ?hf2x13 ?hr2x13 (fun _ _ _ h => h) ?hy2x13 (by assumption) ?rest2x13
      case hi2x13 => (simp only [List.getElem?_toArray, List.getElem?_cons_succ, List.getElem?_cons_zero]; exact rfl)
      case hf2x13 => kernel_rfl
      case hr2x13 => kernel_rfl
      case hy2x13 => (refine Or.inl ⟨by rfl, ?_⟩; intro w hSw; (try dsimp only at hSw); go_simp; try with_reducible rfl)
      simp only [put_mk, List.set_cons_succ, List.set_cons_zero]
      refine wpAnyH_take (i := 14) (oi := ?o2x14) (v := ?v2x14) ?hi2x14 (by kernel_rfl) ?hf2x14 ?hr2x14 (fun _ _ _ h => h) ?hy2x14 (by assumption) ?rest2x14
      case hi2x14 => (simp only [List.getElem?_toArray, List.getElem?_cons_succ, List.getElem?_cons_zero]; exact rfl)
      case hf2x14 => kernel_rfl
      case hr2x14 => kernel_rfl
      case hy2x14 => (refine Or.inl ⟨by rfl, ?_⟩; intro w hSw; (try dsimp only at hSw); go_simp; try with_reducible rfl)
      simp only [put_mk, List.set_cons_succ, List.set_cons_zero]
      refine wpAnyH_take (i := 15) (oi := ?o2x15) (v := ?v2x15) ?hi2x15 (by kernel_rfl) ?hf2x15 ?hr2x15 (fun _ _ _ h => h) ?hy2x15 (by assumption) ?rest2x15
      case hi2x15 => (simp only [List.getElem?_toArray, List.getElem?_cons_succ, List.getElem?_cons_zero]; exact rfl)
      case hf2x15 => kernel_rfl
      case hr2x15 => kernel_rfl
      case hy2x15 => (refine Or.inl ⟨by rfl, ?_⟩; intro w hSw; (try dsimp only at hSw); go_simp; try with_reducible rfl)
      simp only [put_mk, List.set_cons_succ, List.set_cons_zero]
      refine wpAnyH_take (i := 16) (oi := ?o2x16) (v := ?v2x16) ?hi2x16 (by kernel_rfl) ?hf2x16 ?hr2x16 (fun _ _ _ h => h) ?hy2x16 (by assumption) ?rest2x16
      case hi2x16 => (simp only [List.getElem?_toArray, List.getElem?_cons_succ, List.getElem?_cons_zero]; exact rfl)
      case hf2x16 => kernel_rfl
      case hr2x16 => kernel_rfl
      case hy2x16 => (refine Or.inl ⟨by rfl, ?_⟩; intro w hSw; (try dsimp only at hSw); go_simp; try with_reducible rfl)
      simp only [put_mk, List.set_cons_succ, List.set_cons_zero]
      refine wpAnyH_take (i := 17) (oi := ?o2x17) (v := ?v2x17) ?hi2x17 (by kernel_rfl) ?hf2x17 ?hr2x17 (fun _ _ _ h => h) ?hy2x17 (by assumption) ?rest2x17
      case hi2x17 => (simp only [List.getElem?_toArray, List.getElem?_cons_succ, List.getElem?_cons_zero]; exact rfl)
      case hf2x17 => kernel_rfl
      case hr2x17 => kernel_rfl
      case hy2x17 => (refine Or.inl ⟨by rfl, ?_⟩; intro w hSw; (try dsimp only at hSw); go_simp; try with_reducible rfl)
      simp only [put_mk, List.set_cons_succ, List.set_cons_zero]
      refine wpAnyH_take (i := 18) (oi := ?o2x18) (v := ?v2x18) ?hi2x18 (by kernel_rfl) ?hf2x18 ?hr2x18 (fun _ _ _ h => h) ?hy2x18 (by assumption) ?rest2x18
      case hi2x18 => (simp only [List.getElem?_toArray, List.getElem?_cons_succ, List.getElem?_cons_zero]; exact rfl)
      case hf2x18 => kernel_rfl
      case hr2x18 => kernel_rfl
      case hy2x18 => (refine Or.inl ⟨by rfl, ?_⟩; intro w hSw; (try dsimp only at hSw); go_simp; try with_reducible rfl)
      simp only [put_mk, List.set_cons_succ, List.set_cons_zero]
      refine wpAnyH_take (i := 19) (oi := ?o2x19) (v := undef) ?hi2x19 (by kernel_rfl) ?hf2x19 ?hr2x19 (fun _ _ _ h => h) ?hy2x19 (by assumption) ?rest2x19
      case hi2x19 => (simp only [List.getElem?_toArray, List.getElem?_cons_succ, List.getElem?_cons_zero]; exact rfl)
      case hf2x19 => kernel_rfl
      case hr2x19 => kernel_rfl
      case hy2x19 => exact Or.inr ⟨by rfl, rfl⟩
      simp only [put_mk, List.set_cons_succ, List.set_cons_zero]
      refine wpAnyH_take (i := 20) (oi := ?o2x20) (v := undef) ?hi2x20 (by kernel_rfl) ?hf2x20 ?hr2x20 (fun _ _ _ h => h) ?hy2x20 (by assumption) ?rest2x20
      case hi2x20 => (simp only [List.getElem?_toArray, List.getElem?_cons_succ, List.getElem?_cons_zero]; exact rfl)
      case hf2x20 => kernel_rfl
      case hr2x20 => kernel_rfl
      case hy2x20 => exact Or.inr ⟨by rfl, rfl⟩
      simp only [put_mk, List.set_cons_succ, List.set_cons_zero]
      refine wpAnyH_take (i := 21) (oi := ?o2x21) (v := undef) ?hi2x21 (by kernel_rfl) ?hf2x21 ?hr2x21 (fun _ _ _ h => h) ?hy2x21 (by assumption) ?rest2x21
      case hi2x21 => (simp only [List.getElem?_toArray, List.getElem?_cons_succ, List.getElem?_cons_zero]; exact rfl)
      case hf2x21 => kernel_rfl
      case hr2x21 => kernel_rfl
      case hy2x21 => exact Or.inr ⟨by rfl, rfl⟩
      simp only [put_mk, List.set_cons_succ, List.set_cons_zero]
      refine wpAnyH_take (i := 22) (oi := ?o2x22) (v := ?v2x22) ?hi2x22 (by kernel_rfl) ?hf2x22 ?hr2x22 (fun _ _ _ h => h) ?hy2x22 (by assumption) ?rest2x22
      case hi2x22 => (simp only [List.getElem?_toArray, List.getElem?_cons_succ, List.getElem?_cons_zero]; exact rfl)
      case hf2x22 => kernel_rfl
      case hr2x22 => kernel_rfl
      case hy2x22 => (refine Or.inl ⟨by rfl, ?_⟩; intro w hSw; (try dsimp only at hSw); go_simp; try with_reducible rfl)
      simp only [put_mk, List.set_cons_succ, List.set_cons_zero]
      refine wpAnyH_ready (rs := [23]) (by kernel_rfl) (by simp) ?_
      refine AllReadyH.cons (o := ?o2x23) ?hi2x23 (fun K hK => ?_) AllReadyH.nil
      case hi2x23 => (simp only [List.getElem?_toArray, List.getElem?_cons_succ, List.getElem?_cons_zero]; exact rfl)
      go_simp
      refine ((HWh _ _ _).out).mono ?_
      rintro e w4 ⟨rfl, rfl⟩
      refine hK.out _ _ ?_ (fun hHeld => ?_)
      · (repeat (first | exact Ext.refl _ | assumption | refine Ext.setCell ?_ (by first | (simp; done) | (simp; omega)) _ | refine Ext.drewN ?_ _ | refine Ext.alloc ?_ _ | refine Ext.drew ?_ | refine Ext.trans ?_ (by assumption)))
      clear hK K
      refine wpAnyH_ready (rs := [24]) (by kernel_rfl) (by simp) ?_
      refine AllReadyH.cons (o := ?o2x24) ?hi2x24 (fun K hK => ?_) AllReadyH.nil
      case hi2x24 => (simp only [List.getElem?_toArray, List.getElem?_cons_succ, List.getElem?_cons_zero]; exact rfl)
      go_simp
      refine hK.out _ _ ?_ (fun hHeld => ?_)
      · (repeat (first | exact Ext.refl _ | assumption | refine Ext.setCell ?_ (by first | (simp; done) | (simp; omega)) _ | refine Ext.drewN ?_ _ | refine Ext.alloc ?_ _ | refine Ext.drew ?_ | refine Ext.trans ?_ (by assumption)))
      clear hK K
      refine wpAnyH_ready (rs := [25]) (by kernel_rfl) (by simp) ?_
      refine AllReadyH.cons (o := ?o2x25) ?hi2x25 (fun K hK => ?_) AllReadyH.nil
      case hi2x25 => (simp only [List.getElem?_toArray, List.getElem?_cons_succ, List.getElem?_cons_zero]; exact rfl)
      go_simp
      refine ((HS _ _ _ _ (Rd.new (by first | rfl | simp) (by first | rfl | simp))).out).mono ?_
      rintro e w5 ⟨rfl, hw5⟩
      have hx5 : Ext w2 w5 := by rw [← hw5]; (repeat (first | exact Ext.refl _ | assumption | refine Ext.setCell ?_ (by first | (simp; done) | (simp; omega)) _ | refine Ext.drewN ?_ _ | refine Ext.alloc ?_ _ | refine Ext.drew ?_ | refine Ext.trans ?_ (by assumption)))
      clear hw5
      refine hK.out _ _ ?_ (fun hHeld => ?_)
      · (repeat (first | exact Ext.refl _ | assumption | refine Ext.setCell ?_ (by first | (simp; done) | (simp; omega)) _ | refine Ext.drewN ?_ _ | refine Ext.alloc ?_ _ | refine Ext.drew ?_ | refine Ext.trans ?_ (by assumption)))
      clear hK K
      refine wpAnyH_take (i := 26) (oi := ?o2x26) (v := ?v2x26) ?hi2x26 (by kernel_rfl) ?hf2x26 ?hr2x26 (fun _ _ _ h => h) ?hy2x26 (by assumption) ?rest2x26
      case hi2x26 => (simp only [List.getElem?_toArray, List.getElem?_cons_succ, List.getElem?_cons_zero]; exact rfl)
      case hf2x26 => kernel_rfl
      case hr2x26 => kernel_rfl
      case hy2x26 => (refine Or.inl ⟨by rfl, ?_⟩; intro w hSw; (try dsimp only at hSw); go_simp; try with_reducible rfl)
      simp only [put_mk, List.set_cons_succ, List.set_cons_zero]
      refine wpAnyH_done (by kernel_rfl) ?_ _
      refine NoPanic.normal ?_
      go_wp2_with fail
      go_meet
      case rel => exact ⟨by rw [← hv.out], (by repeat (first | exact Ext.refl _ | assumption | refine Ext.setCell ?_ (by first | (simp; done) | (simp; omega)) _ | refine Ext.drewN ?_ _ | refine Ext.alloc ?_ _ | refine Ext.drew ?_ | refine Ext.trans ?_ (by assumption)))⟩
    · have hv : Hid (firstE [n4, 3] = own) := by show _ = _; rw [Hown.out]; simp
      clear Hown
      refine wp_region_noPanic ?_
      refine wp_region_held_drew (S := fun w' => Ext w2 w') (by kernel_rfl) ?_ (fun hHeld => ?_)
      · (repeat (first | exact Ext.refl _ | assumption | refine Ext.setCell ?_ (by first | (simp; done) | (simp; omega)) _ | refine Ext.drewN ?_ _ | refine Ext.alloc ?_ _ | refine Ext.drew ?_ | refine Ext.trans ?_ (by assumption)))
      refine wpAnyH_take (i := 0) (oi := ?o3x0) (v := ?v3x0) ?hi3x0 (by kernel_rfl) ?hf3x0 ?hr3x0 (fun _ _ _ h => h) ?hy3x0 (by assumption) ?rest3x0
      case hi3x0 => (simp only [List.getElem?_toArray, List.getElem?_cons_zero]; exact rfl)
      case hf3x0 => kernel_rfl
      case hr3x0 => kernel_rfl
      case hy3x0 => (refine Or.inl ⟨by rfl, ?_⟩; intro w hSw; (try dsimp only at hSw); go_simp; try with_reducible rfl)
      simp only [put_mk, List.set_cons_succ, List.set_cons_zero]
      refine wpAnyH_take (i := 1) (oi := ?o3x1) (v := ?v3x1) ?hi3x1 (by kernel_rfl) ?hf3x1 ?hr3x1 (fun _ _ _ h => h) ?hy3x1 (by assumption) ?rest3x1
      case hi3x1 => (simp only [List.getElem?_toArray, List.getElem?_cons_succ, List.getElem?_cons_zero]; exact rfl)
      case hf3x1 => kernel_rfl
      case hr3x1 => kernel_rfl
      case hy3x1 => (refine Or.inl ⟨by rfl, ?_⟩; intro w hSw; (try dsimp only at hSw); go_simp; try with_reducible rfl)
      simp only [put_mk, List.set_cons_succ, List.set_cons_zero]
      refine wpAnyH_take (i := 2) (oi := ?o3x2) (v := ?v3x2) ?hi3x2 (by kernel_rfl) ?hf3x2 ?hr3x2 (fun _ _ _ h => h) ?hy3x2 (by assumption) ?rest3x2
      case hi3x2 => (simp only [List.getElem?_toArray, List.getElem?_cons_succ, List.getElem?_cons_zero]; exact rfl)
      case hf3x2 => kernel_rfl
      case hr3x2 => kernel_rfl
      case hy3x2 => (refine Or.inl ⟨by rfl, ?_⟩; intro w hSw; (try dsimp only at hSw); go_simp; try with_reducible rfl)
      simp only [put_mk, List.set_cons_succ, List.set_cons_zero]
      refine wpAnyH_take (i := 3) (oi := ?o3x3) (v := ?v3x3) ?hi3x3 (by kernel_rfl) ?hf3x3 ?hr3x3 (fun _ _ _ h => h) ?hy3x3 (by assumption) ?rest3x3
      case hi3x3 => (simp only [List.getElem?_toArray, List.getElem?_cons_succ, List.getElem?_cons_zero]; exact rfl)
      case hf3x3 => kernel_rfl
      case hr3x3 => kernel_rfl
      case hy3x3 => (refine Or.inl ⟨by rfl, ?_⟩; intro w hSw; (try dsimp only at hSw); go_simp; try with_reducible rfl)
      simp only [put_mk, List.set_cons_succ, List.set_cons_zero]
      refine wpAnyH_take (i := 4) (oi := ?o3x4) (v := ?v3x4) ?hi3x4 (by kernel_rfl) ?hf3x4 ?hr3x4 (fun _ _ _ h => h) ?hy3x4 (by assumption) ?rest3x4
      case hi3x4 => (simp only [List.getElem?_toArray, List.getElem?_cons_succ, List.getElem?_cons_zero]; exact rfl)
      case hf3x4 => kernel_rfl
      case hr3x4 => kernel_rfl
      case hy3x4 => (refine Or.inl ⟨by rfl, ?_⟩; intro w hSw; (try dsimp only at hSw); go_simp; try with_reducible rfl)
      simp only [put_mk, List.set_cons_succ, List.set_cons_zero]
      refine wpAnyH_take (i := 5) (oi := ?o3x5) (v := ?v3x5) ?hi3x5 (by kernel_rfl) ?hf3x5 ?hr3x5 (fun _ _ _ h => h) ?hy3x5 (by assumption) ?rest3x5
      case hi3x5 => (simp only [List.getElem?_toArray, List.getElem?_cons_succ, List.getElem?_cons_zero]; exact rfl)
      case hf3x5 => kernel_rfl
      case hr3x5 => kernel_rfl
      case hy3x5 => (refine Or.inl ⟨by rfl, ?_⟩; intro w hSw; (try dsimp only at hSw); go_simp; try with_reducible rfl)
      simp only [put_mk, List.set_cons_succ, List.set_cons_zero]
      refine wpAnyH_take (i := 6) (oi := ?o3x6) (v := ?v3x6) ?hi3x6 (by kernel_rfl) ?hf3x6 ?hr3x6 (fun _ _ _ h => h) ?hy3x6 (by assumption) ?rest3x6
      case hi3x6 => (simp only [List.getElem?_toArray, List.getElem?_cons_succ, List.getElem?_cons_zero]; exact rfl)
      case hf3x6 => kernel_rfl
      case hr3x6 => kernel_rfl
      case hy3x6 => (refine Or.inl ⟨by rfl, ?_⟩; intro w hSw; (try dsimp only at hSw); go_simp; try with_reducible rfl)
      simp only [put_mk, List.set_cons_succ, List.set_cons_zero]
      refine wpAnyH_take (i := 7) (oi := ?o3x7) (v := ?v3x7) ?hi3x7 (by kernel_rfl) ?hf3x7 ?hr3x7 (fun _ _ _ h => h) ?hy3x7 (by assumption) ?rest3x7
      case hi3x7 => (simp only [List.getElem?_toArray, List.getElem?_cons_succ, List.getElem?_cons_zero]; exact rfl)
      case hf3x7 => kernel_rfl
      case hr3x7 => kernel_rfl
      case hy3x7 => (refine Or.inl ⟨by rfl, ?_⟩; intro w hSw; (try dsimp only at hSw); go_simp; try with_reducible rfl)
      simp only [put_mk, List.set_cons_succ, List.set_cons_zero]
      refine wpAnyH_take (i := 10) (oi := ?o3x10) (v := ?v3x10) ?hi3x10 (by kernel_rfl) ?hf3x10 ?hr3x10 (fun _ _ _ h => h) ?hy3x10 (by assumption) ?rest3x10
      case hi3x10 => (simp only [List.getElem?_toArray, List.getElem?_cons_succ, List.getElem?_cons_zero]; exact rfl)
      case hf3x10 => kernel_rfl
      case hr3x10 => kernel_rfl
      case hy3x10 => (refine Or.inl ⟨by rfl, ?_⟩; intro w hSw; (try dsimp only at hSw); go_simp; try with_reducible rfl)
      simp only [put_mk, List.set_cons_succ, List.set_cons_zero]
      refine wpAnyH_take (i := 11) (oi := ?o3x11) (v := ?v3x11) ?hi3x11 (by kernel_rfl) ?hf3x11 ?hr3x11 (fun _ _ _ h => h) ?hy3x11 (by assumption) ?rest3x11
      case hi3x11 => (simp only [List.getElem?_toArray, List.getElem?_cons_succ, List.getElem?_cons_zero]; exact rfl)
      case hf3x11 => kernel_rfl
      case hr3x11 => kernel_rfl
      case hy3x11 => (refine Or.inl ⟨by rfl, ?_⟩; intro w hSw; (try dsimp only at hSw); go_simp; try with_reducible rfl)
      simp only [put_mk, List.set_cons_succ, List.set_cons_zero]
      refine wpAnyH_take (i := 12) (oi := ?o3x12) (v := ?v3x12) ?hi3x12 (by kernel_rfl) ?hf3x12 ?hr3x12 (fun _ _ _ h => h) ?hy3x12 (by assumption) ?rest3x12
      case hi3x12 => (simp only [List.getElem?_toArray, List.getElem?_cons_succ, List.getElem?_cons_zero]; exact rfl)
      case hf3x12 => kernel_rfl
      case hr3x12 => kernel_rfl
      case hy3x12 => (refine Or.inl ⟨by rfl, ?_⟩; intro w hSw; (try dsimp only at hSw); go_simp; try with_reducible rfl)
      simp only [put_mk, List.set_cons_succ, List.set_cons_zero]
      refine wpAnyH_ready (rs := [8]) (by kernel_rfl) (by simp) ?_
      refine AllReadyH.cons (o := ?o3x8) ?hi3x8 (fun K hK => ?_) AllReadyH.nil
      case hi3x8 => (simp only [List.getElem?_toArray, List.getElem?_cons_succ, List.getElem?_cons_zero]; exact rfl)
      go_simp
      refine hK.out _ _ ?_ (fun hHeld => ?_)
      · (repeat (first | exact Ext.refl _ | assumption | refine Ext.setCell ?_ (by first | (simp; done) | (simp; omega)) _ | refine Ext.drewN ?_ _ | refine Ext.alloc ?_ _ | refine Ext.drew ?_ | refine Ext.trans ?_ (by assumption)))
      clear hK K
      refine wpAnyH_ready (rs := [9]) (by kernel_rfl) (by simp) ?_
      refine AllReadyH.cons (o := ?o3x9) ?hi3x9 (fun K hK => ?_) AllReadyH.nil
      case hi3x9 => (simp only [List.getElem?_toArray, List.getElem?_cons_succ, List.getElem?_cons_zero]; exact rfl)
      go_simp
      refine ((HNu _ _ (Rd.ext (Rd.new (by first | rfl | simp) (by first | rfl | simp)) (Ext.refl _).drew)).out).mono ?_
      rintro e w3 ⟨rfl, hw3⟩
      have hx3 : Ext w2 w3 := by rw [← hw3]; (repeat (first | exact Ext.refl _ | assumption | refine Ext.setCell ?_ (by first | (simp; done) | (simp; omega)) _ | refine Ext.drewN ?_ _ | refine Ext.alloc ?_ _ | refine Ext.drew ?_ | refine Ext.trans ?_ (by assumption)))
      clear hw3
      refine hK.out _ _ ?_ (fun hHeld => ?_)
      · (repeat (first | exact Ext.refl _ | assumption | refine Ext.setCell ?_ (by first | (simp; done) | (simp; omega)) _ | refine Ext.drewN ?_ _ | refine Ext.alloc ?_ _ | refine Ext.drew ?_ | refine Ext.trans ?_ (by assumption)))
      clear hK K
      refine wpAnyH_take (i := 13) (oi := ?o3x13) (v := ?v3x13) ?hi3x13 (by kernel_rfl) ?hf3x13 ?hr3x13 (fun _ _ _ h => h) ?hy3x13 (by assumption) ?rest3x13
      case hi3x13 => (simp only [List.getElem?_toArray, List.getElem?_cons_succ, List.getElem?_cons_zero]; exact rfl)
      case hf3x13 => kernel_rfl
      case hr3x13 => kernel_rfl
      case hy3x13 => (refine Or.inl ⟨by rfl, ?_⟩; intro w hSw; (try dsimp only at hSw); go_simp; try with_reducible rfl)
      simp only [put_mk, List.set_cons_succ, List.set_cons_zero]
      refine wpAnyH_take (i := 14) (oi := ?o3x14) (v := ?v3x14) ?hi3x14 (by kernel_rfl) ?hf3x14 ?hr3x14 (fun _ _ _ h => h) ?hy3x14 (by assumption) ?rest3x14
      case hi3x14 => (simp only [List.getElem?_toArray, List.getElem?_cons_succ, List.getElem?_cons_zero]; exact rfl)
      case hf3x14 => kernel_rfl
      case hr3x14 => kernel_rfl
      case hy3x14 => (refine Or.inl ⟨by rfl, ?_⟩; intro w hSw; (try dsimp only at hSw); go_simp; try with_reducible rfl)
      simp only [put_mk, List.set_cons_succ, List.set_cons_zero]
      refine wpAnyH_take (i := 15) (oi := ?o3x15) (v := ?v3x15) ?hi3x15 (by kernel_rfl) ?hf3x15 ?hr3x15 (fun _ _ _ h => h) ?hy3x15 (by assumption) ?rest3x15
      case hi3x15 => (simp only [List.getElem?_toArray, List.getElem?_cons_succ, List.getElem?_cons_zero]; exact rfl)
      case hf3x15 => kernel_rfl
      case hr3x15 => kernel_rfl
      case hy3x15 => (refine Or.inl ⟨by rfl, ?_⟩; intro w hSw; (try dsimp only at hSw); go_simp; try with_reducible rfl)
      simp only [put_mk, List.set_cons_succ, List.set_cons_zero]
      refine wpAnyH_take (i := 16) (oi := ?o3x16) (v := ?v3x16) ?hi3x16 (by kernel_rfl) ?hf3x16 ?hr3x16 (fun _ _ _ h => h) ?hy3x16 (by assumption) ?rest3x16
      case hi3x16 => (simp only [List.getElem?_toArray, List.getElem?_cons_succ, List.getElem?_cons_zero]; exact rfl)
      case hf3x16 => kernel_rfl
      case hr3x16 => kernel_rfl
      case hy3x16 => (refine Or.inl ⟨by rfl, ?_⟩; intro w hSw; (try dsimp only at hSw); go_simp; try with_reducible rfl)
      simp only [put_mk, List.set_cons_succ, List.set_cons_zero]
      refine wpAnyH_take (i := 17) (oi := ?o3x17) (v := ?v3x17) ?hi3x17 (by kernel_rfl) ?hf3x17 ?hr3x17 (fun _ _ _ h => h) ?hy3x17 (by assumption) ?rest3x17
      case hi3x17 => (simp only [List.getElem?_toArray, List.getElem?_cons_succ, List.getElem?_cons_zero]; exact rfl)
      case hf3x17 => kernel_rfl
      case hr3x17 => kernel_rfl
      case hy3x17 => (refine Or.inl ⟨by rfl, ?_⟩; intro w hSw; (try dsimp only at hSw); go_simp; try with_reducible rfl)
      simp only [put_mk, List.set_cons_succ, List.set_cons_zero]
      refine wpAnyH_take (i := 18) (oi := ?o3x18) (v := ?v3x18) ?hi3x18 (by kernel_rfl) ?hf3x18 ?hr3x18 (fun _ _ _ h => h) ?hy3x18 (by assumption) ?rest3x18
      case hi3x18 => (simp only [List.getElem?_toArray, List.getElem?_cons_succ, List.getElem?_cons_zero]; exact rfl)
      case hf3x18 => kernel_rfl
      case hr3x18 => kernel_rfl
      case hy3x18 => (refine Or.inl ⟨by rfl, ?_⟩; intro w hSw; (try dsimp only at hSw); go_simp; try with_reducible rfl)
      simp only [put_mk, List.set_cons_succ, List.set_cons_zero]
      refine wpAnyH_take (i := 19) (oi := ?o3x19) (v := ?v3x19) ?hi3x19 (by kernel_rfl) ?hf3x19 ?hr3x19 (fun _ _ _ h => h) ?hy3x19 (by assumption) ?rest3x19
      case hi3x19 => (simp only [List.getElem?_toArray, List.getElem?_cons_succ, List.getElem?_cons_zero]; exact rfl)
      case hf3x19 => kernel_rfl
      case hr3x19 => kernel_rfl
      case hy3x19 => (refine Or.inl ⟨by rfl, ?_⟩; intro w hSw; (try dsimp only at hSw); go_simp; try with_reducible rfl)
      simp only [put_mk, List.set_cons_succ, List.set_cons_zero]
      refine wpAnyH_take (i := 20) (oi := ?o3x20) (v := ?v3x20) ?hi3x20 (by kernel_rfl) ?hf3x20 ?hr3x20 (fun _ _ _ h => h) ?hy3x20 (by assumption) ?rest3x20
      case hi3x20 => (simp only [List.getElem?_toArray, List.getElem?_cons_succ, List.getElem?_cons_zero]; exact rfl)
      case hf3x20 => kernel_rfl
      case hr3x20 => kernel_rfl
      case hy3x20 => (refine Or.inl ⟨by rfl, ?_⟩; intro w hSw; (try dsimp only at hSw); go_simp; try with_reducible rfl)
      simp only [put_mk, List.set_cons_succ, List.set_cons_zero]
      refine wpAnyH_take (i := 21) (oi := ?o3x21) (v := ?v3x21) ?hi3x21 (by kernel_rfl) ?hf3x21 ?hr3x21 (fun _ _ _ h => h) ?hy3x21 (by assumption) ?rest3x21
      case hi3x21 => (simp only [List.getElem?_toArray, List.getElem?_cons_succ, List.getElem?_cons_zero]; exact rfl)
      case hf3x21 => kernel_rfl
      case hr3x21 => kernel_rfl
      case hy3x21 => (refine Or.inl ⟨by rfl, ?_⟩; intro w hSw; (try dsimp only at hSw); go_simp; try with_reducible rfl)
      simp only [put_mk, List.set_cons_succ, List.set_cons_zero]
      refine wpAnyH_take (i := 22) (oi := ?o3x22) (v := ?v3x22) ?hi3x22 (by kernel_rfl) ?hf3x22 ?hr3x22 (fun _ _ _ h => h) ?hy3x22 (by assumption) ?rest3x22
      case hi3x22 => (simp only [List.getElem?_toArray, List.getElem?_cons_succ, List.getElem?_cons_zero]; exact rfl)
      case hf3x22 => kernel_rfl
      case hr3x22 => kernel_rfl
      case hy3x22 => (refine Or.inl ⟨by rfl, ?_⟩; intro w hSw; (try dsimp only at hSw); go_simp; try with_reducible rfl)
      simp only [put_mk, List.set_cons_succ, List.set_cons_zero]
      refine wpAnyH_ready (rs := [23]) (by kernel_rfl) (by simp) ?_
      refine AllReadyH.cons (o := ?o3x23) ?hi3x23 (fun K hK => ?_) AllReadyH.nil
      case hi3x23 => (simp only [List.getElem?_toArray, List.getElem?_cons_succ, List.getElem?_cons_zero]; exact rfl)
      go_simp
      refine ((HWh _ _ _).out).mono ?_
      rintro e w4 ⟨rfl, rfl⟩
      refine hK.out _ _ ?_ (fun hHeld => ?_)
      · (repeat (first | exact Ext.refl _ | assumption | refine Ext.setCell ?_ (by first | (simp; done) | (simp; omega)) _ | refine Ext.drewN ?_ _ | refine Ext.alloc ?_ _ | refine Ext.drew ?_ | refine Ext.trans ?_ (by assumption)))
      clear hK K
      refine wpAnyH_ready (rs := [24]) (by kernel_rfl) (by simp) ?_
      refine AllReadyH.cons (o := ?o3x24) ?hi3x24 (fun K hK => ?_) AllReadyH.nil
      case hi3x24 => (simp only [List.getElem?_toArray, List.getElem?_cons_succ, List.getElem?_cons_zero]; exact rfl)
      go_simp
      refine hK.out _ _ ?_ (fun hHeld => ?_)
      · (repeat (first | exact Ext.refl _ | assumption | refine Ext.setCell ?_ (by first | (simp; done) | (simp; omega)) _ | refine Ext.drewN ?_ _ | refine Ext.alloc ?_ _ | refine Ext.drew ?_ | refine Ext.trans ?_ (by assumption)))
      clear hK K
      refine wpAnyH_ready (rs := [25]) (by kernel_rfl) (by simp) ?_
      refine AllReadyH.cons (o := ?o3x25) ?hi3x25 (fun K hK => ?_) AllReadyH.nil
      case hi3x25 => (simp only [List.getElem?_toArray, List.getElem?_cons_succ, List.getElem?_cons_zero]; exact rfl)
      go_simp
      refine ((HS _ _ _ _ (Rd.new (by first | rfl | simp) (by first | rfl | simp))).out).mono ?_
      rintro e w5 ⟨rfl, hw5⟩
      have hx5 : Ext w2 w5 := by rw [← hw5]; (repeat (first | exact Ext.refl _ | assumption | refine Ext.setCell ?_ (by first | (simp; done) | (simp; omega)) _ | refine Ext.drewN ?_ _ | refine Ext.alloc ?_ _ | refine Ext.drew ?_ | refine Ext.trans ?_ (by assumption)))
      clear hw5
      refine hK.out _ _ ?_ (fun hHeld => ?_)
      · (repeat (first | exact Ext.refl _ | assumption | refine Ext.setCell ?_ (by first | (simp; done) | (simp; omega)) _ | refine Ext.drewN ?_ _ | refine Ext.alloc ?_ _ | refine Ext.drew ?_ | refine Ext.trans ?_ (by assumption)))
      clear hK K
      refine wpAnyH_take (i := 26) (oi := ?o3x26) (v := ?v3x26) ?hi3x26 (by kernel_rfl) ?hf3x26 ?hr3x26 (fun _ _ _ h => h) ?hy3x26 (by assumption) ?rest3x26
      case hi3x26 => (simp only [List.getElem?_toArray, List.getElem?_cons_succ, List.getElem?_cons_zero]; exact rfl)
      case hf3x26 => kernel_rfl
      case hr3x26 => kernel_rfl
      case hy3x26 => (refine Or.inl ⟨by rfl, ?_⟩; intro w hSw; (try dsimp only at hSw); go_simp; try with_reducible rfl)
      simp only [put_mk, List.set_cons_succ, List.set_cons_zero]
      refine wpAnyH_done (by kernel_rfl) ?_ _
      refine NoPanic.normal ?_
      go_wp2_with fail
      go_meet
      case rel => exact ⟨by rw [← hv.out], (by repeat (first | exact Ext.refl _ | assumption | refine Ext.setCell ?_ (by first | (simp; done) | (simp; omega)) _ | refine Ext.drewN ?_ _ | refine Ext.alloc ?_ _ | refine Ext.drew ?_ | refine Ext.trans ?_ (by assumption)))⟩
    · have hv : Hid (firstE [n4, 0] = own) := by show _ = _; rw [Hown.out]; simp
      clear Hown
      refine wp_region_noPanic ?_
      refine wp_region_held_drew (S := fun w' => Ext w2 w') (by kernel_rfl) ?_ (fun hHeld => ?_)
      · (repeat (first | exact Ext.refl _ | assumption | refine Ext.setCell ?_ (by first | (simp; done) | (simp; omega)) _ | refine Ext.drewN ?_ _ | refine Ext.alloc ?_ _ | refine Ext.drew ?_ | refine Ext.trans ?_ (by assumption)))
      refine wpAnyH_take (i := 0) (oi := ?o4x0) (v := ?v4x0) ?hi4x0 (by kernel_rfl) ?hf4x0 ?hr4x0 (fun _ _ _ h => h) ?hy4x0 (by assumption) ?rest4x0
      case hi4x0 => (simp only [List.getElem?_toArray, List.getElem?_cons_zero]; exact rfl)
      case hf4x0 => kernel_rfl
      case hr4x0 => kernel_rfl
      case hy4x0 => (refine Or.inl ⟨by rfl, ?_⟩; intro w hSw; (try dsimp only at hSw); go_simp; try with_reducible rfl)
      simp only [put_mk, List.set_cons_succ, List.set_cons_zero]
      refine wpAnyH_take (i := 1) (oi := ?o4x1) (v := ?v4x1) ?hi4x1 (by kernel_rfl) ?hf4x1 ?hr4x1 (fun _ _ _ h => h) ?hy4x1 (by assumption) ?rest4x1
      case hi4x1 => (simp only [List.getElem?_toArray, List.getElem?_cons_succ, List.getElem?_cons_zero]; exact rfl)
      case hf4x1 => kernel_rfl
      case hr4x1 => kernel_rfl
      case hy4x1 => (refine Or.inl ⟨by rfl, ?_⟩; intro w hSw; (try dsimp only at hSw); go_simp; try with_reducible rfl)
      simp only [put_mk, List.set_cons_succ, List.set_cons_zero]
      refine wpAnyH_take (i := 2) (oi := ?o4x2) (v := ?v4x2) ?hi4x2 (by kernel_rfl) ?hf4x2 ?hr4x2 (fun _ _ _ h => h) ?hy4x2 (by assumption) ?rest4x2
      case hi4x2 => (simp only [List.getElem?_toArray, List.getElem?_cons_succ, List.getElem?_cons_zero]; exact rfl)
      case hf4x2 => kernel_rfl
      case hr4x2 => kernel_rfl
      case hy4x2 => (refine Or.inl ⟨by rfl, ?_⟩; intro w hSw; (try dsimp only at hSw); go_simp; try with_reducible rfl)
      simp only [put_mk, List.set_cons_succ, List.set_cons_zero]
      refine wpAnyH_take (i := 3) (oi := ?o4x3) (v := ?v4x3) ?hi4x3 (by kernel_rfl) ?hf4x3 ?hr4x3 (fun _ _ _ h => h) ?hy4x3 (by assumption) ?rest4x3
      case hi4x3 => (simp only [List.getElem?_toArray, List.getElem?_cons_succ, List.getElem?_cons_zero]; exact rfl)
      case hf4x3 => kernel_rfl
      case hr4x3 => kernel_rfl
      case hy4x3 => (refine Or.inl ⟨by rfl, ?_⟩; intro w hSw; (try dsimp only at hSw); go_simp; try with_reducible rfl)
      simp only [put_mk, List.set_cons_succ, List.set_cons_zero]
      refine wpAnyH_take (i := 4) (oi := ?o4x4) (v := ?v4x4) ?hi4x4 (by kernel_rfl) ?hf4x4 ?hr4x4 (fun _ _ _ h => h) ?hy4x4 (by assumption) ?rest4x4
      case hi4x4 => (simp only [List.getElem?_toArray, List.getElem?_cons_succ, List.getElem?_cons_zero]; exact rfl)
      case hf4x4 => kernel_rfl
      case hr4x4 => kernel_rfl
      case hy4x4 => (refine Or.inl ⟨by rfl, ?_⟩; intro w hSw; (try dsimp only at hSw); go_simp; try with_reducible rfl)
      simp only [put_mk, List.set_cons_succ, List.set_cons_zero]
      refine wpAnyH_take (i := 5) (oi := ?o4x5) (v := ?v4x5) ?hi4x5 (by kernel_rfl) ?hf4x5 ?hr4x5 (fun _ _ _ h => h) ?hy4x5 (by assumption) ?rest4x5
      case hi4x5 => (simp only [List.getElem?_toArray, List.getElem?_cons_succ, List.getElem?_cons_zero]; exact rfl)
      case hf4x5 => kernel_rfl
      case hr4x5 => kernel_rfl
      case hy4x5 => (refine Or.inl ⟨by rfl, ?_⟩; intro w hSw; (try dsimp only at hSw); go_simp; try with_reducible rfl)
      simp only [put_mk, List.set_cons_succ, List.set_cons_zero]
      refine wpAnyH_take (i := 6) (oi := ?o4x6) (v := ?v4x6) ?hi4x6 (by kernel_rfl) ?hf4x6 ?hr4x6 (fun _ _ _ h => h) ?hy4x6 (by assumption) ?rest4x6
      case hi4x6 => (simp only [List.getElem?_toArray, List.getElem?_cons_succ, List.getElem?_cons_zero]; exact rfl)
      case hf4x6 => kernel_rfl
      case hr4x6 => kernel_rfl
      case hy4x6 => (refine Or.inl ⟨by rfl, ?_⟩; intro w hSw; (try dsimp only at hSw); go_simp; try with_reducible rfl)
      simp only [put_mk, List.set_cons_succ, List.set_cons_zero]
      refine wpAnyH_take (i := 7) (oi := ?o4x7) (v := ?v4x7) ?hi4x7 (by kernel_rfl) ?hf4x7 ?hr4x7 (fun _ _ _ h => h) ?hy4x7 (by assumption) ?rest4x7
      case hi4x7 => (simp only [List.getElem?_toArray, List.getElem?_cons_succ, List.getElem?_cons_zero]; exact rfl)
      case hf4x7 => kernel_rfl
      case hr4x7 => kernel_rfl
      case hy4x7 => (refine Or.inl ⟨by rfl, ?_⟩; intro w hSw; (try dsimp only at hSw); go_simp; try with_reducible rfl)
      simp only [put_mk, List.set_cons_succ, List.set_cons_zero]
      refine wpAnyH_take (i := 10) (oi := ?o4x10) (v := ?v4x10) ?hi4x10 (by kernel_rfl) ?hf4x10 ?hr4x10 (fun _ _ _ h => h) ?hy4x10 (by assumption) ?rest4x10
      case hi4x10 => (simp only [List.getElem?_toArray, List.getElem?_cons_succ, List.getElem?_cons_zero]; exact rfl)
      case hf4x10 => kernel_rfl
      case hr4x10 => kernel_rfl
      case hy4x10 => (refine Or.inl ⟨by rfl, ?_⟩; intro w hSw; (try dsimp only at hSw); go_simp; try with_reducible rfl)
      simp only [put_mk, List.set_cons_succ, List.set_cons_zero]
      refine wpAnyH_take (i := 11) (oi := ?o4x11) (v := ?v4x11) ?hi4x11 (by kernel_rfl) ?hf4x11 ?hr4x11 (fun _ _ _ h => h) ?hy4x11 (by assumption) ?rest4x11
      case hi4x11 => (simp only [List.getElem?_toArray, List.getElem?_cons_succ, List.getElem?_cons_zero]; exact rfl)
      case hf4x11 => kernel_rfl
      case hr4x11 => kernel_rfl
      case hy4x11 => (refine Or.inl ⟨by rfl, ?_⟩; intro w hSw; (try dsimp only at hSw); go_simp; try with_reducible rfl)
      simp only [put_mk, List.set_cons_succ, List.set_cons_zero]
      refine wpAnyH_take (i := 12) (oi := ?o4x12) (v := ?v4x12) ?hi4x12 (by kernel_rfl) ?hf4x12 ?hr4x12 (fun _ _ _ h => h) ?hy4x12 (by assumption) ?rest4x12
      case hi4x12 => (simp only [List.getElem?_toArray, List.getElem?_cons_succ, List.getElem?_cons_zero]; exact rfl)
      case hf4x12 => kernel_rfl
      case hr4x12 => kernel_rfl
      case hy4x12 => (refine Or.inl ⟨by rfl, ?_⟩; intro w hSw; (try dsimp only at hSw); go_simp; try with_reducible rfl)
      simp only [put_mk, List.set_cons_succ, List.set_cons_zero]
      refine wpAnyH_ready (rs := [8]) (by kernel_rfl) (by simp) ?_
      refine AllReadyH.cons (o := ?o4x8) ?hi4x8 (fun K hK => ?_) AllReadyH.nil
      case hi4x8 => (simp only [List.getElem?_toArray, List.getElem?_cons_succ, List.getElem?_cons_zero]; exact rfl)
      go_simp
      refine hK.out _ _ ?_ (fun hHeld => ?_)
      · (repeat (first | exact Ext.refl _ | assumption | refine Ext.setCell ?_ (by first | (simp; done) | (simp; omega)) _ | refine Ext.drewN ?_ _ | refine Ext.alloc ?_ _ | refine Ext.drew ?_ | refine Ext.trans ?_ (by assumption)))
      clear hK K
      refine wpAnyH_ready (rs := [9]) (by kernel_rfl) (by simp) ?_
      refine AllReadyH.cons (o := ?o4x9) ?hi4x9 (fun K hK => ?_) AllReadyH.nil
      case hi4x9 => (simp only [List.getElem?_toArray, List.getElem?_cons_succ, List.getElem?_cons_zero]; exact rfl)
      go_simp
      refine ((HNu _ _ (Rd.ext (Rd.new (by first | rfl | simp) (by first | rfl | simp)) (Ext.refl _).drew)).out).mono ?_
      rintro e w3 ⟨rfl, hw3⟩
      have hx3 : Ext w2 w3 := by rw [← hw3]; (repeat (first | exact Ext.refl _ | assumption | refine Ext.setCell ?_ (by first | (simp; done) | (simp; omega)) _ | refine Ext.drewN ?_ _ | refine Ext.alloc ?_ _ | refine Ext.drew ?_ | refine Ext.trans ?_ (by assumption)))
      clear hw3
      refine hK.out _ _ ?_ (fun hHeld => ?_)
      · (repeat (first | exact Ext.refl _ | assumption | refine Ext.setCell ?_ (by first | (simp; done) | (simp; omega)) _ | refine Ext.drewN ?_ _ | refine Ext.alloc ?_ _ | refine Ext.drew ?_ | refine Ext.trans ?_ (by assumption)))
      clear hK K
      refine wpAnyH_take (i := 13) (oi := ?o4x13) (v := ?v4x13) ?hi4x13 (by kernel_rfl) ?hf4x13 ?hr4x13 (fun _ _ _ h => h) ?hy4x13 (by assumption) ?rest4x13
      case hi4x13 => (simp only [List.getElem?_toArray, List.getElem?_cons_succ, List.getElem?_cons_zero]; exact rfl)
      case hf4x13 => kernel_rfl
      case hr4x13 => kernel_rfl
      case hy4x13 => (refine Or.inl ⟨by rfl, ?_⟩; intro w hSw; (try dsimp only at hSw); go_simp; try with_reducible rfl)
      simp only [put_mk, List.set_cons_succ, List.set_cons_zero]
      refine wpAnyH_take (i := 14) (oi := ?o4x14) (v := ?v4x14) ?hi4x14 (by kernel_rfl) ?hf4x14 ?hr4x14 (fun _ _ _ h => h) ?hy4x14 (by assumption) ?rest4x14
      case hi4x14 => (simp only [List.getElem?_toArray, List.getElem?_cons_succ, List.getElem?_cons_zero]; exact rfl)
      case hf4x14 => kernel_rfl
      case hr4x14 => kernel_rfl
      case hy4x14 => (refine Or.inl ⟨by rfl, ?_⟩; intro w hSw; (try dsimp only at hSw); go_simp; try with_reducible rfl)
      simp only [put_mk, List.set_cons_succ, List.set_cons_zero]
      refine wpAnyH_take (i := 15) (oi := ?o4x15) (v := ?v4x15) ?hi4x15 (by kernel_rfl) ?hf4x15 ?hr4x15 (fun _ _ _ h => h) ?hy4x15 (by assumption) ?rest4x15
      case hi4x15 => (simp only [List.getElem?_toArray, List.getElem?_cons_succ, List.getElem?_cons_zero]; exact rfl)
      case hf4x15 => kernel_rfl
      case hr4x15 => kernel_rfl
      case hy4x15 => (refine Or.inl ⟨by rfl, ?_⟩; intro w hSw; (try dsimp only at hSw); go_simp; try with_reducible rfl)
      simp only [put_mk, List.set_cons_succ, List.set_cons_zero]
      refine wpAnyH_take (i := 16) (oi := ?o4x16) (v := ?v4x16) ?hi4x16 (by kernel_rfl) ?hf4x16 ?hr4x16 (fun _ _ _ h => h) ?hy4x16 (by assumption) ?rest4x16
      case hi4x16 => (simp only [List.getElem?_toArray, List.getElem?_cons_succ, List.getElem?_cons_zero]; exact rfl)
      case hf4x16 => kernel_rfl
      case hr4x16 => kernel_rfl
      case hy4x16 => (refine Or.inl ⟨by rfl, ?_⟩; intro w hSw; (try dsimp only at hSw); go_simp; try with_reducible rfl)
      simp only [put_mk, List.set_cons_succ, List.set_cons_zero]
      refine wpAnyH_take (i := 17) (oi := ?o4x17) (v := ?v4x17) ?hi4x17 (by kernel_rfl) ?hf4x17 ?hr4x17 (fun _ _ _ h => h) ?hy4x17 (by assumption) ?rest4x17
      case hi4x17 => (simp only [List.getElem?_toArray, List.getElem?_cons_succ, List.getElem?_cons_zero]; exact rfl)
      case hf4x17 => kernel_rfl
      case hr4x17 => kernel_rfl
      case hy4x17 => (refine Or.inl ⟨by rfl, ?_⟩; intro w hSw; (try dsimp only at hSw); go_simp; try with_reducible rfl)
      simp only [put_mk, List.set_cons_succ, List.set_cons_zero]
      refine wpAnyH_take (i := 18) (oi := ?o4x18) (v := ?v4x18) ?hi4x18 (by kernel_rfl) ?hf4x18 ?hr4x18 (fun _ _ _ h => h) ?hy4x18 (by assumption) ?rest4x18
      case hi4x18 => (simp only [List.getElem?_toArray, List.getElem?_cons_succ, List.getElem?_cons_zero]; exact rfl)
      case hf4x18 => kernel_rfl
      case hr4x18 => kernel_rfl
      case hy4x18 => (refine Or.inl ⟨by rfl, ?_⟩; intro w hSw; (try dsimp only at hSw); go_simp; try with_reducible rfl)
      simp only [put_mk, List.set_cons_succ, List.set_cons_zero]
      refine wpAnyH_take (i := 19) (oi := ?o4x19) (v := ?v4x19) ?hi4x19 (by kernel_rfl) ?hf4x19 ?hr4x19 (fun _ _ _ h => h) ?hy4x19 (by assumption) ?rest4x19
      case hi4x19 => (simp only [List.getElem?_toArray, List.getElem?_cons_succ, List.getElem?_cons_zero]; exact rfl)
      case hf4x19 => kernel_rfl
      case hr4x19 => kernel_rfl
      case hy4x19 => (refine Or.inl ⟨by rfl, ?_⟩; intro w hSw; (try dsimp only at hSw); go_simp; try with_reducible rfl)
      simp only [put_mk, List.set_cons_succ, List.set_cons_zero]
      refine wpAnyH_take (i := 20) (oi := ?o4x20) (v := ?v4x20) ?hi4x20 (by kernel_rfl) ?hf4x20 ?hr4x20 (fun _ _ _ h => h) ?hy4x20 (by assumption) ?rest4x20
      case hi4x20 => (simp only [List.getElem?_toArray, List.getElem?_cons_succ, List.getElem?_cons_zero]; exact rfl)
      case hf4x20 => kernel_rfl
      case hr4x20 => kernel_rfl
      case hy4x20 => (refine Or.inl ⟨by rfl, ?_⟩; intro w hSw; (try dsimp only at hSw); go_simp; try with_reducible rfl)
      simp only [put_mk, List.set_cons_succ, List.set_cons_zero]
      refine wpAnyH_take (i := 21) (oi := ?o4x21) (v := ?v4x21) ?hi4x21 (by kernel_rfl) ?hf4x21 ?hr4x21 (fun _ _ _ h => h) ?hy4x21 (by assumption) ?rest4x21
      case hi4x21 => (simp only [List.getElem?_toArray, List.getElem?_cons_succ, List.getElem?_cons_zero]; exact rfl)
      case hf4x21 => kernel_rfl
      case hr4x21 => kernel_rfl
      case hy4x21 => (refine Or.inl ⟨by rfl, ?_⟩; intro w hSw; (try dsimp only at hSw); go_simp; try with_reducible rfl)
      simp only [put_mk, List.set_cons_succ, List.set_cons_zero]
      refine wpAnyH_take (i := 22) (oi := ?o4x22) (v := ?v4x22) ?hi4x22 (by kernel_rfl) ?hf4x22 ?hr4x22 (fun _ _ _ h => h) ?hy4x22 (by assumption) ?rest4x22
      case hi4x22 => (simp only [List.getElem?_toArray, List.getElem?_cons_succ, List.getElem?_cons_zero]; exact rfl)
      case hf4x22 => kernel_rfl
      case hr4x22 => kernel_rfl
      case hy4x22 => (refine Or.inl ⟨by rfl, ?_⟩; intro w hSw; (try dsimp only at hSw); go_simp; try with_reducible rfl)
      simp only [put_mk, List.set_cons_succ, List.set_cons_zero]
      refine wpAnyH_ready (rs := [23]) (by kernel_rfl) (by simp) ?_
      refine AllReadyH.cons (o := ?o4x23) ?hi4x23 (fun K hK => ?_) AllReadyH.nil
      case hi4x23 => (simp only [List.getElem?_toArray, List.getElem?_cons_succ, List.getElem?_cons_zero]; exact rfl)
      go_simp
      refine ((HWh _ _ _).out).mono ?_
      rintro e w4 ⟨rfl, rfl⟩
      refine hK.out _ _ ?_ (fun hHeld => ?_)
      · (repeat (first | exact Ext.refl _ | assumption | refine Ext.setCell ?_ (by first | (simp; done) | (simp; omega)) _ | refine Ext.drewN ?_ _ | refine Ext.alloc ?_ _ | refine Ext.drew ?_ | refine Ext.trans ?_ (by assumption)))
      clear hK K
      refine wpAnyH_ready (rs := [24]) (by kernel_rfl) (by simp) ?_
      refine AllReadyH.cons (o := ?o4x24) ?hi4x24 (fun K hK => ?_) AllReadyH.nil
      case hi4x24 => (simp only [List.getElem?_toArray, List.getElem?_cons_succ, List.getElem?_cons_zero]; exact rfl)
      go_simp
      refine hK.out _ _ ?_ (fun hHeld => ?_)
      · (repeat (first | exact Ext.refl _ | assumption | refine Ext.setCell ?_ (by first | (simp; done) | (simp; omega)) _ | refine Ext.drewN ?_ _ | refine Ext.alloc ?_ _ | refine Ext.drew ?_ | refine Ext.trans ?_ (by assumption)))
      clear hK K
      refine wpAnyH_ready (rs := [25]) (by kernel_rfl) (by simp) ?_
      refine AllReadyH.cons (o := ?o4x25) ?hi4x25 (fun K hK => ?_) AllReadyH.nil
      case hi4x25 => (simp only [List.getElem?_toArray, List.getElem?_cons_succ, List.getElem?_cons_zero]; exact rfl)
      go_simp
      refine ((HS _ _ _ _ (Rd.new (by first | rfl | simp) (by first | rfl | simp))).out).mono ?_
      rintro e w5 ⟨rfl, hw5⟩
      have hx5 : Ext w2 w5 := by rw [← hw5]; (repeat (first | exact Ext.refl _ | assumption | refine Ext.setCell ?_ (by first | (simp; done) | (simp; omega)) _ | refine Ext.drewN ?_ _ | refine Ext.alloc ?_ _ | refine Ext.drew ?_ | refine Ext.trans ?_ (by assumption)))
      clear hw5
      refine hK.out _ _ ?_ (fun hHeld => ?_)
      · (repeat (first | exact Ext.refl _ | assumption | refine Ext.setCell ?_ (by first | (simp; done) | (simp; omega)) _ | refine Ext.drewN ?_ _ | refine Ext.alloc ?_ _ | refine Ext.drew ?_ | refine Ext.trans ?_ (by assumption)))
      clear hK K
      refine wpAnyH_take (i := 26) (oi := ?o4x26) (v := ?v4x26) ?hi4x26 (by kernel_rfl) ?hf4x26 ?hr4x26 (fun _ _ _ h => h) ?hy4x26 (by assumption) ?rest4x26
      case hi4x26 => (simp only [List.getElem?_toArray, List.getElem?_cons_succ, List.getElem?_cons_zero]; exact rfl)
      case hf4x26 => kernel_rfl
      case hr4x26 => kernel_rfl
      case hy4x26 => (refine Or.inl ⟨by rfl, ?_⟩; intro w hSw; (try dsimp only at hSw); go_simp; try with_reducible rfl)
      simp only [put_mk, List.set_cons_succ, List.set_cons_zero]
      refine wpAnyH_done (by kernel_rfl) ?_ _
      refine NoPanic.normal ?_
      go_wp2_with fail
      go_meet
      case rel => exact ⟨by rw [← hv.out], (by repeat (first | exact Ext.refl _ | assumption | refine Ext.setCell ?_ (by first | (simp; done) | (simp; omega)) _ | refine Ext.drewN ?_ _ | refine Ext.alloc ?_ _ | refine Ext.drew ?_ | refine Ext.trans ?_ (by assumption)))⟩
  case rest =>
    obtain ⟨rfl, hxc⟩ := hcut
    clear s0 s1 s2 s3 Hown hb1 hb2 hb3 HNu HWh
    have p0 := (kF.ext hxc).cell 0
    have p1 := (kF.ext hxc).cell 1
    have p2 := (kF.ext hxc).cell 2
    have p3 := (kF.ext hxc).cell 3
    have p4 := (kF.ext hxc).cell 4
    go_wp2_with fail
    refine ((HE _ (hV.ext (hx2.trans hxc))).out).mono ?_
    rintro e w6 ⟨rfl, hx6⟩
    have hy6 := hxc.trans hx6
    clear p0 p1 p2 p3 p4
    go_wp2_with fail
    refine ((HS _ _ _ _ (Rd.new (by first | rfl | simp) (by first | rfl | simp))).out).mono ?_
    rintro e w7 ⟨rfl, hw7⟩
    have hy7 : Ext w2 w7 := hy6.trans (by rw [← hw7]; (repeat (first | exact Ext.refl _ | assumption | refine Ext.setCell ?_ (by first | (simp; done) | (simp; omega)) _ | refine Ext.drewN ?_ _ | refine Ext.alloc ?_ _ | refine Ext.drew ?_ | refine Ext.trans ?_ (by assumption))))
    clear hw7
    rw [HFE.out]
    go_wp2_with fail
    refine ((HW _).out).mono ?_
    rintro e w8 ⟨rfl, hx8⟩
    have hy8 := hy7.trans hx8
    have q0 := (kS.ext hy8).cell 0
    have q1 := (kS.ext hy8).cell 1
    have q2 := (kS.ext hy8).cell 2
    have q3 := (kS.ext hy8).cell 3
    go_wp2_with fail
    refine ((HC _).out).mono ?_
    rintro e w9 ⟨rfl, hx9⟩
    have hy9 := hy8.trans hx9
    clear q0 q1 q2 q3
    go_wp2_with fail
    refine ((HW _).out).mono ?_
    rintro e w10 ⟨rfl, hx10⟩
    have hy10 := hy9.trans hx10
    have q0 := (kS.ext hy10).cell 0
    have q1 := (kS.ext hy10).cell 1
    have q2 := (kS.ext hy10).cell 2
    have q3 := (kS.ext hy10).cell 3
    go_wp2_with fail
    refine ((HC _).out).mono ?_
    rintro e w11 ⟨rfl, hx11⟩
    have hy11 := hy10.trans hx11
    clear q0 q1 q2 q3
    have q0 := (kG.ext hy11).cell 0
    have q1 := (kG.ext hy11).cell 1
    have q2 := (kG.ext hy11).cell 2
    have q3 := (kG.ext hy11).cell 3
    have q4 := (kG.ext hy11).cell 4
    go_wp2_with fail
    refine ((HZ _).out).mono ?_
    rintro e w12 ⟨rfl, hx12⟩
    go_wp2_with fail
    go_ret
    exact ⟨by first | rfl | simp, hx2.trans (hy11.trans hx12)⟩
set_option maxRecDepth 100000 in
set_option maxHeartbeats 12800000 in
theorem snow_good_walk (X Y : Int) (Wn Hn N : Nat) (A : Option Addr) (c : Nat) (l : List Nat) (a b c1 d wm : Nat) (w : World) (hr : Reg X Y Wn Hn) (hN : N = Wn * Hn) (hl : l.length = N) (hV : Rd w A (flt l)) (hf : fieldE X Y Wn Hn l = 0) (hsn : snowE a b c1 d = 0) :
    Calls Try.prog 7 #[.agg #[.int .i64 X, .int .i64 Y, .int .i64 (Wn : Int), .int .i64 (Hn : Int), .slice A N c], .agg #[.float .f32 a, .float .f32 b, .float .f32 c1, .float .f32 d], .float .f32 wm] w fun e w' => e = .returned (.bool true) ∧ Ext w w' := by
  have hN6 : N ≤ 65536 := by rw [hN]; exact hr.n
  have hr0 : regE X Y Wn Hn = 0 := by
    unfold fieldE at hf
    split at hf
    · rename_i h; exact absurd hf h
    · rename_i h; simpa using h
  have hh : ∀ j, j < N → Bd 20 (l.getD j 0) := fun j hj => by
    have hnum : numE l = 0 := by
      rw [← hf, fieldE_num hr0 (by rw [hl, hN, Int.natCast_mul])]
    have hjl : j < l.length := by omega
    have e : l.getD j 0 = l[j] := by simp [List.getD_eq_getElem?_getD, hjl]
    rw [e]
    exact hgt_bd ((numE_zero hnum).2 _ (List.getElem_mem hjl))
  obtain ⟨vv, hvv⟩ : ∃ vv, vv = (List.range N).map (snowF (fun j => l.getD j 0) Wn Hn a b c1 d) := ⟨_, rfl⟩
  have hvl : vv.length = N := by rw [hvv]; simp
  have hvk : ∀ k, k < N → vv.getD k 0 = snowF (fun j => l.getD j 0) Wn Hn a b c1 d k := fun k hk => by rw [hvv]; simp [List.getD_eq_getElem?_getD, hk]
  have hv0 : ∀ k, k < N → 0 ≤ valI (vv.getD k 0) := fun k hk => by
    rw [hvk k hk]
    exact snow_nonneg (hh k hk) (ris_bd (v := fun j => l.getD j 0) (fun j hj => hh j (by omega)) (by omega) 8) (ris_lt _ _ _ _ _) hsn
  have HB := fun (w : World) (h : Rd w A (flt l)) => hidA (Snow_one X Y Wn Hn N A c l a b c1 d w hr hN hl h hf hsn)
  rw [← hvv] at HB
  have HO := fun (k : Nat) (w : World) (h : Rd w A (flt l)) (hk : k < N) => hidA (snowOf_any X Y Wn Hn N k A c l a b c1 d w hr hN hl h hh hk hsn)
  have HRes := fun (w : World) (ra rb rc rd : Int) (vA D : Option Addr) (vn vc z : Nat) (ec : Int) (h : WetR X Y Wn Hn N vv w ra rb rc rd vA vn vc ec) (hB : Rd w D (flt vv)) => hidA (result_two X Y Wn Hn N vv w ra rb rc rd vA D vn vc z ec h hvl hB (by omega))
  have hvb : vv.all hgtB = true → (fieldE X Y Wn Hn vv = 0 ∧ ∀ k, k < N → Bd 20 (vv.getD k 0)) := fun hal => by
    have hnum := numE_all hal
    refine ⟨by rw [fieldE_num hr0 (by rw [hvl, hN, Int.natCast_mul])]; exact hnum, fun k hk => ?_⟩
    have hkl : k < vv.length := by omega
    have e : vv.getD k 0 = vv[k] := by simp [List.getD_eq_getElem?_getD, hkl]
    rw [e]
    exact hgt_bd ((numE_zero hnum).2 _ (List.getElem_mem hkl))
  have HMok := fun (hal : vv.all hgtB = true) (B : Option Addr) (c' : Nat) (w : World) (h : Rd w A (flt l)) (h2 : Rd w B (flt vv)) (hE : meltE wm = 0) => hidA (Melt_ok X Y Wn Hn N A c l B c' vv wm w hr hN hl h hf hvl h2 (hvb hal).1 hv0 hE)
  have HMbad := fun (hal : vv.all hgtB = true) (B : Option Addr) (c' : Nat) (w : World) (h : Rd w A (flt l)) (h2 : Rd w B (flt vv)) (hE : meltE wm ≠ 0) => hidA (Melt_bad X Y Wn Hn N A c l B c' vv wm w hr hN hl h hf hvl h2 (hvb hal).1 hE)
  have HNw := fun (D : Option Addr) (w : World) (h : Rd w D (flt [wm])) => hidA (numberError_any D 1 1 [wm] w rfl h (by omega))
  have hwl : (FloatKind.f32.format.order wm 0 == some .lt) = lt wm 0 := rfl
  have hmE : meltE wm = if numE [wm] ≠ 0 then numE [wm] else if lt wm 0 = true then 3 else 0 := rfl
  have HNu := fun (D : Option Addr) (w : World) (h : Rd w D (flt [a, b, c1, d])) => hidA (numberError_any D 4 4 [a, b, c1, d] w rfl h (by omega))
  have HE := fun (w : World) (h : Rd w A (flt l)) => hidA (fieldError_any X Y (Wn : Int) (Hn : Int) A N c l w hl h (by omega))
  have HZ := fun (w : World) => hidA (empty_zero w)
  have HW := fun (w : World) => hidA (flows_any w)
  have HC := fun (w : World) => hidA (checkSnow_any a b c1 d w)
  have HWh := fun (b : Bool) (x : Int) (w : World) => hidA (when_any b x w)
  have HS := fun (x y : Int) (B : Option Addr) (w : World) (h : Rd w B ([x, y].map (.int .i64))) => hidA (first_any B 2 2 [x, y] w rfl h (by omega))
  have hb1 : (FloatKind.f32.format.order b 0 == some .lt) = lt b 0 := rfl
  have hb2 : (FloatKind.f32.format.order c1 0 == some .lt) = lt c1 0 := rfl
  have hb3 : (FloatKind.f32.format.order d 0 == some .lt) = lt d 0 := rfl
  have hown : snowE a b c1 d = if numE [a, b, c1, d] ≠ 0 then numE [a, b, c1, d] else if lt b 0 = true ∨ lt c1 0 = true ∨ lt d 0 = true then 3 else 0 := rfl
  have hf2 : ∀ x y : Int, firstE [x, y] = if x ≠ 0 then x else y := first_two
  have HF2 := hidA hf2
  have HS0 := hidA (True.intro)
  have hfe : firstE [fieldE X Y Wn Hn l, snowE a b c1 d] = 0 := by rw [hf, hsn]; rfl
  have HFE := hidA hfe
  rw [hsn] at hown hfe HC
  rw [hf] at HE hfe
  have HFZ := hidA hfe
  obtain ⟨own, hown0⟩ : ∃ own : Int, own = 0 := ⟨0, rfl⟩
  have Hwm0 : meltE wm = 0 → Bd 20 wm ∧ 0 ≤ valI wm := fun hE => by
    have hnw : numE [wm] = 0 ∧ lt wm 0 = false := by
      rw [hmE] at hE
      by_cases h1 : numE [wm] = 0
      · rw [if_neg (fun h2 => h2 h1)] at hE
        refine ⟨h1, ?_⟩
        cases h2 : lt wm 0
        · rfl
        · rw [h2] at hE
          cases hE
      · rw [if_pos h1] at hE
        exact absurd hE h1
    have hw : Bd 20 wm := hgt_bd ((numE_zero hnw.1).2 wm (by simp))
    have h2 := hnw.2
    rw [lt_val (bd_Fin hw (by omega)) fin_zero, val_zero] at h2
    exact ⟨hw, by simpa using h2⟩
  have HVB := hidA hvb
  have HV0 := hidA hv0
  have HVK := hidA hvk
  have HVL := hidA hvl
  have Hwm := hidA Hwm0
  have HHH := hidA hh
  have HL := hidA hl
  have HME : Hid (meltE wm = firstE [numE [wm], if lt wm 0 = true then 3 else 0]) := by show meltE wm = _; rw [hf2, hmE]
  have Hown : Hid (own = firstE [numE [a, b, c1, d], if lt b 0 = true ∨ lt c1 0 = true ∨ lt d 0 = true then 3 else 0]) := by show own = _; rw [hf2]; exact hown0.trans hown
  generalize numE [a, b, c1, d] = n4 at *
  generalize lt b 0 = B1 at *
  generalize lt c1 0 = B2 at *
  generalize lt d 0 = B3 at *
  generalize numE [wm] = nw at *
  generalize lt wm 0 = Bw at *
  clear hf2 hown hfe HF2 hr hN hl hf hsn hr0 hh hvb hv0 hvk hvl hmE Hwm0 HFE hvv
  go_enter Try.func7, Try.ntmps7
  go_upto_region 2 with (go_at_call 40; refine ((HB _ (hV.ext (by repeat (first | (with_reducible exact Ext.refl _) | (with_reducible assumption) | (with_reducible refine Ext.setCell ?_ (by first | (simp; done) | (simp; omega)) _) | (with_reducible refine Ext.drewN ?_ _) | (with_reducible refine Ext.alloc ?_ _) | (with_reducible refine Ext.drew ?_) | (with_reducible refine Ext.trans ?_ (by assumption)))))).out).mono ?_; rintro e w1 ⟨ra, rb, rc, rd, vA, vn, vc, ec, rfl, hWR, hx1⟩)
  have kF : Bk (w1.alloc (.cells #[.int .i64 ra, .int .i64 rb, .int .i64 rc, .int .i64 rd, .slice vA vn vc] 26)) w.heap.size 26 #[.int .i64 X, .int .i64 Y, .int .i64 (Wn : Int), .int .i64 (Hn : Int), .slice A N c] := (((Bk.new' rfl).alloc _).ext hx1).alloc _
  have kS : Bk (w1.alloc (.cells #[.int .i64 ra, .int .i64 rb, .int .i64 rc, .int .i64 rd, .slice vA vn vc] 26)) (w.heap.size + 1) 66 #[.float .f32 a, .float .f32 b, .float .f32 c1, .float .f32 d] := ((Bk.new' (by simp)).ext hx1).alloc _
  have kG : Bk (w1.alloc (.cells #[.int .i64 ra, .int .i64 rb, .int .i64 rc, .int .i64 rd, .slice vA vn vc] 26)) w1.heap.size 26 #[.int .i64 ra, .int .i64 rb, .int .i64 rc, .int .i64 rd, .slice vA vn vc] := Bk.new' rfl
  have hx2 : Ext w (w1.alloc (.cells #[.int .i64 ra, .int .i64 rb, .int .i64 rc, .int .i64 rd, .slice vA vn vc] 26)) := ((((Ext.refl w).alloc _).alloc _).trans hx1).alloc _
  have hW2 := hWR.ext ((Ext.refl w1).alloc (.cells #[.int .i64 ra, .int .i64 rb, .int .i64 rc, .int .i64 rd, .slice vA vn vc] 26))
  clear hx1 HB hWR
  generalize w1.alloc (.cells #[.int .i64 ra, .int .i64 rb, .int .i64 rc, .int .i64 rd, .slice vA vn vc] 26) = w2 at *
  generalize w1.heap.size = hg at *
  generalize w.heap.size + 1 = hs at *
  have s0 : ∀ w', Ext w2 w' → w'.cell? ⟨hs, 0, none⟩ = some (.float .f32 a) := fun w' h => (kS.ext h).cell 0
  have s1 : ∀ w', Ext w2 w' → w'.cell? ⟨hs, 1, none⟩ = some (.float .f32 b) := fun w' h => (kS.ext h).cell 1
  have s2 : ∀ w', Ext w2 w' → w'.cell? ⟨hs, 2, none⟩ = some (.float .f32 c1) := fun w' h => (kS.ext h).cell 2
  have s3 : ∀ w', Ext w2 w' → w'.cell? ⟨hs, 3, none⟩ = some (.float .f32 d) := fun w' h => (kS.ext h).cell 3
  go_cut [9] from 29 to 54 (fun s9 wx => s9 = Value.int .i64 own ∧ Ext w2 wx)
  case first =>
    clear HE HS0 HW HC
    have hc : B1 = true ∨ (B1 = false ∧ B2 = true) ∨ (B1 = false ∧ B2 = false ∧ B3 = true) ∨ (B1 = false ∧ B2 = false ∧ B3 = false) := by
      cases B1 <;> cases B2 <;> cases B3 <;> simp
    rcases hc with rfl | ⟨rfl, rfl⟩ | ⟨rfl, rfl, rfl⟩ | ⟨rfl, rfl, rfl⟩
    · have hv : Hid (firstE [n4, 3] = own) := by show _ = _; rw [Hown.out]; simp
      clear Hown
      refine wp_region_noPanic ?_
      refine wp_region_held_drew (S := fun w' => Ext w2 w') (by kernel_rfl) ?_ (fun hHeld => ?_)
      · (repeat (first | exact Ext.refl _ | assumption | refine Ext.setCell ?_ (by first | (simp; done) | (simp; omega)) _ | refine Ext.drewN ?_ _ | refine Ext.alloc ?_ _ | refine Ext.drew ?_ | refine Ext.trans ?_ (by assumption)))
      refine wpAnyH_take (i := 0) (oi := ?o1x0) (v := ?v1x0) ?hi1x0 (by kernel_rfl) ?hf1x0 ?hr1x0 (fun _ _ _ h => h) ?hy1x0 (by assumption) ?rest1x0
      case hi1x0 => (simp only [List.getElem?_toArray, List.getElem?_cons_zero]; exact rfl)
      case hf1x0 => kernel_rfl
      case hr1x0 => kernel_rfl
      case hy1x0 => (refine Or.inl ⟨by rfl, ?_⟩; intro w hSw; (try dsimp only at hSw); go_simp; try with_reducible rfl)
      simp only [put_mk, List.set_cons_succ, List.set_cons_zero]
      refine wpAnyH_take (i := 1) (oi := ?o1x1) (v := ?v1x1) ?hi1x1 (by kernel_rfl) ?hf1x1 ?hr1x1 (fun _ _ _ h => h) ?hy1x1 (by assumption) ?rest1x1
      case hi1x1 => (simp only [List.getElem?_toArray, List.getElem?_cons_succ, List.getElem?_cons_zero]; exact rfl)
      case hf1x1 => kernel_rfl
      case hr1x1 => kernel_rfl
      case hy1x1 => (refine Or.inl ⟨by rfl, ?_⟩; intro w hSw; (try dsimp only at hSw); go_simp; try with_reducible rfl)
      simp only [put_mk, List.set_cons_succ, List.set_cons_zero]
      refine wpAnyH_take (i := 2) (oi := ?o1x2) (v := ?v1x2) ?hi1x2 (by kernel_rfl) ?hf1x2 ?hr1x2 (fun _ _ _ h => h) ?hy1x2 (by assumption) ?rest1x2
      case hi1x2 => (simp only [List.getElem?_toArray, List.getElem?_cons_succ, List.getElem?_cons_zero]; exact rfl)
      case hf1x2 => kernel_rfl
      case hr1x2 => kernel_rfl
      case hy1x2 => (refine Or.inl ⟨by rfl, ?_⟩; intro w hSw; (try dsimp only at hSw); go_simp; try with_reducible rfl)
      simp only [put_mk, List.set_cons_succ, List.set_cons_zero]
      refine wpAnyH_take (i := 3) (oi := ?o1x3) (v := ?v1x3) ?hi1x3 (by kernel_rfl) ?hf1x3 ?hr1x3 (fun _ _ _ h => h) ?hy1x3 (by assumption) ?rest1x3
      case hi1x3 => (simp only [List.getElem?_toArray, List.getElem?_cons_succ, List.getElem?_cons_zero]; exact rfl)
      case hf1x3 => kernel_rfl
      case hr1x3 => kernel_rfl
      case hy1x3 => (refine Or.inl ⟨by rfl, ?_⟩; intro w hSw; (try dsimp only at hSw); go_simp; try with_reducible rfl)
      simp only [put_mk, List.set_cons_succ, List.set_cons_zero]
      refine wpAnyH_take (i := 4) (oi := ?o1x4) (v := ?v1x4) ?hi1x4 (by kernel_rfl) ?hf1x4 ?hr1x4 (fun _ _ _ h => h) ?hy1x4 (by assumption) ?rest1x4
      case hi1x4 => (simp only [List.getElem?_toArray, List.getElem?_cons_succ, List.getElem?_cons_zero]; exact rfl)
      case hf1x4 => kernel_rfl
      case hr1x4 => kernel_rfl
      case hy1x4 => (refine Or.inl ⟨by rfl, ?_⟩; intro w hSw; (try dsimp only at hSw); go_simp; try with_reducible rfl)
      simp only [put_mk, List.set_cons_succ, List.set_cons_zero]
      refine wpAnyH_take (i := 5) (oi := ?o1x5) (v := ?v1x5) ?hi1x5 (by kernel_rfl) ?hf1x5 ?hr1x5 (fun _ _ _ h => h) ?hy1x5 (by assumption) ?rest1x5
      case hi1x5 => (simp only [List.getElem?_toArray, List.getElem?_cons_succ, List.getElem?_cons_zero]; exact rfl)
      case hf1x5 => kernel_rfl
      case hr1x5 => kernel_rfl
      case hy1x5 => (refine Or.inl ⟨by rfl, ?_⟩; intro w hSw; (try dsimp only at hSw); go_simp; try with_reducible rfl)
      simp only [put_mk, List.set_cons_succ, List.set_cons_zero]
      refine wpAnyH_take (i := 6) (oi := ?o1x6) (v := ?v1x6) ?hi1x6 (by kernel_rfl) ?hf1x6 ?hr1x6 (fun _ _ _ h => h) ?hy1x6 (by assumption) ?rest1x6
      case hi1x6 => (simp only [List.getElem?_toArray, List.getElem?_cons_succ, List.getElem?_cons_zero]; exact rfl)
      case hf1x6 => kernel_rfl
      case hr1x6 => kernel_rfl
      case hy1x6 => (refine Or.inl ⟨by rfl, ?_⟩; intro w hSw; (try dsimp only at hSw); go_simp; try with_reducible rfl)
      simp only [put_mk, List.set_cons_succ, List.set_cons_zero]
      refine wpAnyH_take (i := 7) (oi := ?o1x7) (v := ?v1x7) ?hi1x7 (by kernel_rfl) ?hf1x7 ?hr1x7 (fun _ _ _ h => h) ?hy1x7 (by assumption) ?rest1x7
      case hi1x7 => (simp only [List.getElem?_toArray, List.getElem?_cons_succ, List.getElem?_cons_zero]; exact rfl)
      case hf1x7 => kernel_rfl
      case hr1x7 => kernel_rfl
      case hy1x7 => (refine Or.inl ⟨by rfl, ?_⟩; intro w hSw; (try dsimp only at hSw); go_simp; try with_reducible rfl)
      simp only [put_mk, List.set_cons_succ, List.set_cons_zero]
      refine wpAnyH_take (i := 10) (oi := ?o1x10) (v := ?v1x10) ?hi1x10 (by kernel_rfl) ?hf1x10 ?hr1x10 (fun _ _ _ h => h) ?hy1x10 (by assumption) ?rest1x10
      case hi1x10 => (simp only [List.getElem?_toArray, List.getElem?_cons_succ, List.getElem?_cons_zero]; exact rfl)
      case hf1x10 => kernel_rfl
      case hr1x10 => kernel_rfl
      case hy1x10 => (refine Or.inl ⟨by rfl, ?_⟩; intro w hSw; (try dsimp only at hSw); go_simp; try with_reducible rfl)
      simp only [put_mk, List.set_cons_succ, List.set_cons_zero]
      refine wpAnyH_take (i := 11) (oi := ?o1x11) (v := ?v1x11) ?hi1x11 (by kernel_rfl) ?hf1x11 ?hr1x11 (fun _ _ _ h => h) ?hy1x11 (by assumption) ?rest1x11
      case hi1x11 => (simp only [List.getElem?_toArray, List.getElem?_cons_succ, List.getElem?_cons_zero]; exact rfl)
      case hf1x11 => kernel_rfl
      case hr1x11 => kernel_rfl
      case hy1x11 => (refine Or.inl ⟨by rfl, ?_⟩; intro w hSw; (try dsimp only at hSw); go_simp; try with_reducible rfl)
      simp only [put_mk, List.set_cons_succ, List.set_cons_zero]
      refine wpAnyH_take (i := 12) (oi := ?o1x12) (v := ?v1x12) ?hi1x12 (by kernel_rfl) ?hf1x12 ?hr1x12 (fun _ _ _ h => h) ?hy1x12 (by assumption) ?rest1x12
      case hi1x12 => (simp only [List.getElem?_toArray, List.getElem?_cons_succ, List.getElem?_cons_zero]; exact rfl)
      case hf1x12 => kernel_rfl
      case hr1x12 => kernel_rfl
      case hy1x12 => (refine Or.inl ⟨by rfl, ?_⟩; intro w hSw; (try dsimp only at hSw); go_simp; try with_reducible rfl)
      simp only [put_mk, List.set_cons_succ, List.set_cons_zero]
      refine wpAnyH_ready (rs := [8]) (by kernel_rfl) (by simp) ?_
      refine AllReadyH.cons (o := ?o1x8) ?hi1x8 (fun K hK => ?_) AllReadyH.nil
      case hi1x8 => (simp only [List.getElem?_toArray, List.getElem?_cons_succ, List.getElem?_cons_zero]; exact rfl)
      go_simp
      refine hK.out _ _ ?_ (fun hHeld => ?_)
      · (repeat (first | exact Ext.refl _ | assumption | refine Ext.setCell ?_ (by first | (simp; done) | (simp; omega)) _ | refine Ext.drewN ?_ _ | refine Ext.alloc ?_ _ | refine Ext.drew ?_ | refine Ext.trans ?_ (by assumption)))
      clear hK K
      refine wpAnyH_ready (rs := [9]) (by kernel_rfl) (by simp) ?_
      refine AllReadyH.cons (o := ?o1x9) ?hi1x9 (fun K hK => ?_) AllReadyH.nil
      case hi1x9 => (simp only [List.getElem?_toArray, List.getElem?_cons_succ, List.getElem?_cons_zero]; exact rfl)
      go_simp
      refine ((HNu _ _ (Rd.ext (Rd.new (by first | rfl | simp) (by first | rfl | simp)) (Ext.refl _).drew)).out).mono ?_
      rintro e w3 ⟨rfl, hw3⟩
      have hx3 : Ext w2 w3 := by rw [← hw3]; (repeat (first | exact Ext.refl _ | assumption | refine Ext.setCell ?_ (by first | (simp; done) | (simp; omega)) _ | refine Ext.drewN ?_ _ | refine Ext.alloc ?_ _ | refine Ext.drew ?_ | refine Ext.trans ?_ (by assumption)))
      clear hw3
      refine hK.out _ _ ?_ (fun hHeld => ?_)
      · (repeat (first | exact Ext.refl _ | assumption | refine Ext.setCell ?_ (by first | (simp; done) | (simp; omega)) _ | refine Ext.drewN ?_ _ | refine Ext.alloc ?_ _ | refine Ext.drew ?_ | refine Ext.trans ?_ (by assumption)))
      clear hK K
      refine wpAnyH_take (i := 13) (oi := ?o1x13) (v := ?v1x13) ?hi1x13 (by kernel_rfl) ?hf1x13 ?hr1x13 (fun _ _ _ h => h) ?hy1x13 (by assumption) ?rest1x13
      case hi1x13 => (simp only [List.getElem?_toArray, List.getElem?_cons_succ, List.getElem?_cons_zero]; exact rfl)
      case hf1x13 => kernel_rfl
      case hr1x13 => kernel_rfl
      case hy1x13 => (refine Or.inl ⟨by rfl, ?_⟩; intro w hSw; (try dsimp only at hSw); go_simp; try with_reducible rfl)
      simp only [put_mk, List.set_cons_succ, List.set_cons_zero]
      refine wpAnyH_take (i := 14) (oi := ?o1x14) (v := undef) ?hi1x14 (by kernel_rfl) ?hf1x14 ?hr1x14 (fun _ _ _ h => h) ?hy1x14 (by assumption) ?rest1x14
      case hi1x14 => (simp only [List.getElem?_toArray, List.getElem?_cons_succ, List.getElem?_cons_zero]; exact rfl)
      case hf1x14 => kernel_rfl
      case hr1x14 => kernel_rfl
      case hy1x14 => exact Or.inr ⟨by rfl, rfl⟩
      simp only [put_mk, List.set_cons_succ, List.set_cons_zero]
      refine wpAnyH_take (i := 15) (oi := ?o1x15) (v := undef) ?hi1x15 (by kernel_rfl) ?hf1x15 ?hr1x15 (fun _ _ _ h => h) ?hy1x15 (by assumption) ?rest1x15
      case hi1x15 => (simp only [List.getElem?_toArray, List.getElem?_cons_succ, List.getElem?_cons_zero]; exact rfl)
      case hf1x15 => kernel_rfl
      case hr1x15 => kernel_rfl
      case hy1x15 => exact Or.inr ⟨by rfl, rfl⟩
      simp only [put_mk, List.set_cons_succ, List.set_cons_zero]
      refine wpAnyH_take (i := 16) (oi := ?o1x16) (v := undef) ?hi1x16 (by kernel_rfl) ?hf1x16 ?hr1x16 (fun _ _ _ h => h) ?hy1x16 (by assumption) ?rest1x16
      case hi1x16 => (simp only [List.getElem?_toArray, List.getElem?_cons_succ, List.getElem?_cons_zero]; exact rfl)
      case hf1x16 => kernel_rfl
      case hr1x16 => kernel_rfl
      case hy1x16 => exact Or.inr ⟨by rfl, rfl⟩
      simp only [put_mk, List.set_cons_succ, List.set_cons_zero]
      refine wpAnyH_take (i := 17) (oi := ?o1x17) (v := ?v1x17) ?hi1x17 (by kernel_rfl) ?hf1x17 ?hr1x17 (fun _ _ _ h => h) ?hy1x17 (by assumption) ?rest1x17
      case hi1x17 => (simp only [List.getElem?_toArray, List.getElem?_cons_succ, List.getElem?_cons_zero]; exact rfl)
      case hf1x17 => kernel_rfl
      case hr1x17 => kernel_rfl
      case hy1x17 => (refine Or.inl ⟨by rfl, ?_⟩; intro w hSw; (try dsimp only at hSw); go_simp; try with_reducible rfl)
      simp only [put_mk, List.set_cons_succ, List.set_cons_zero]
      refine wpAnyH_take (i := 18) (oi := ?o1x18) (v := ?v1x18) ?hi1x18 (by kernel_rfl) ?hf1x18 ?hr1x18 (fun _ _ _ h => h) ?hy1x18 (by assumption) ?rest1x18
      case hi1x18 => (simp only [List.getElem?_toArray, List.getElem?_cons_succ, List.getElem?_cons_zero]; exact rfl)
      case hf1x18 => kernel_rfl
      case hr1x18 => kernel_rfl
      case hy1x18 => (refine Or.inl ⟨by rfl, ?_⟩; intro w hSw; (try dsimp only at hSw); go_simp; try with_reducible rfl)
      simp only [put_mk, List.set_cons_succ, List.set_cons_zero]
      refine wpAnyH_take (i := 19) (oi := ?o1x19) (v := undef) ?hi1x19 (by kernel_rfl) ?hf1x19 ?hr1x19 (fun _ _ _ h => h) ?hy1x19 (by assumption) ?rest1x19
      case hi1x19 => (simp only [List.getElem?_toArray, List.getElem?_cons_succ, List.getElem?_cons_zero]; exact rfl)
      case hf1x19 => kernel_rfl
      case hr1x19 => kernel_rfl
      case hy1x19 => exact Or.inr ⟨by rfl, rfl⟩
      simp only [put_mk, List.set_cons_succ, List.set_cons_zero]
      refine wpAnyH_take (i := 20) (oi := ?o1x20) (v := undef) ?hi1x20 (by kernel_rfl) ?hf1x20 ?hr1x20 (fun _ _ _ h => h) ?hy1x20 (by assumption) ?rest1x20
      case hi1x20 => (simp only [List.getElem?_toArray, List.getElem?_cons_succ, List.getElem?_cons_zero]; exact rfl)
      case hf1x20 => kernel_rfl
      case hr1x20 => kernel_rfl
      case hy1x20 => exact Or.inr ⟨by rfl, rfl⟩
      simp only [put_mk, List.set_cons_succ, List.set_cons_zero]
      refine wpAnyH_take (i := 21) (oi := ?o1x21) (v := undef) ?hi1x21 (by kernel_rfl) ?hf1x21 ?hr1x21 (fun _ _ _ h => h) ?hy1x21 (by assumption) ?rest1x21
      case hi1x21 => (simp only [List.getElem?_toArray, List.getElem?_cons_succ, List.getElem?_cons_zero]; exact rfl)
      case hf1x21 => kernel_rfl
      case hr1x21 => kernel_rfl
      case hy1x21 => exact Or.inr ⟨by rfl, rfl⟩
      simp only [put_mk, List.set_cons_succ, List.set_cons_zero]
      refine wpAnyH_take (i := 22) (oi := ?o1x22) (v := ?v1x22) ?hi1x22 (by kernel_rfl) ?hf1x22 ?hr1x22 (fun _ _ _ h => h) ?hy1x22 (by assumption) ?rest1x22
      case hi1x22 => (simp only [List.getElem?_toArray, List.getElem?_cons_succ, List.getElem?_cons_zero]; exact rfl)
      case hf1x22 => kernel_rfl
      case hr1x22 => kernel_rfl
      case hy1x22 => (refine Or.inl ⟨by rfl, ?_⟩; intro w hSw; (try dsimp only at hSw); go_simp; try with_reducible rfl)
      simp only [put_mk, List.set_cons_succ, List.set_cons_zero]
      refine wpAnyH_ready (rs := [23]) (by kernel_rfl) (by simp) ?_
      refine AllReadyH.cons (o := ?o1x23) ?hi1x23 (fun K hK => ?_) AllReadyH.nil
      case hi1x23 => (simp only [List.getElem?_toArray, List.getElem?_cons_succ, List.getElem?_cons_zero]; exact rfl)
      go_simp
      refine ((HWh _ _ _).out).mono ?_
      rintro e w4 ⟨rfl, rfl⟩
      refine hK.out _ _ ?_ (fun hHeld => ?_)
      · (repeat (first | exact Ext.refl _ | assumption | refine Ext.setCell ?_ (by first | (simp; done) | (simp; omega)) _ | refine Ext.drewN ?_ _ | refine Ext.alloc ?_ _ | refine Ext.drew ?_ | refine Ext.trans ?_ (by assumption)))
      clear hK K
      refine wpAnyH_ready (rs := [24]) (by kernel_rfl) (by simp) ?_
      refine AllReadyH.cons (o := ?o1x24) ?hi1x24 (fun K hK => ?_) AllReadyH.nil
      case hi1x24 => (simp only [List.getElem?_toArray, List.getElem?_cons_succ, List.getElem?_cons_zero]; exact rfl)
      go_simp
      refine hK.out _ _ ?_ (fun hHeld => ?_)
      · (repeat (first | exact Ext.refl _ | assumption | refine Ext.setCell ?_ (by first | (simp; done) | (simp; omega)) _ | refine Ext.drewN ?_ _ | refine Ext.alloc ?_ _ | refine Ext.drew ?_ | refine Ext.trans ?_ (by assumption)))
      clear hK K
      refine wpAnyH_ready (rs := [25]) (by kernel_rfl) (by simp) ?_
      refine AllReadyH.cons (o := ?o1x25) ?hi1x25 (fun K hK => ?_) AllReadyH.nil
      case hi1x25 => (simp only [List.getElem?_toArray, List.getElem?_cons_succ, List.getElem?_cons_zero]; exact rfl)
      go_simp
      refine ((HS _ _ _ _ (Rd.new (by first | rfl | simp) (by first | rfl | simp))).out).mono ?_
      rintro e w5 ⟨rfl, hw5⟩
      have hx5 : Ext w2 w5 := by rw [← hw5]; (repeat (first | exact Ext.refl _ | assumption | refine Ext.setCell ?_ (by first | (simp; done) | (simp; omega)) _ | refine Ext.drewN ?_ _ | refine Ext.alloc ?_ _ | refine Ext.drew ?_ | refine Ext.trans ?_ (by assumption)))
      clear hw5
      refine hK.out _ _ ?_ (fun hHeld => ?_)
      · (repeat (first | exact Ext.refl _ | assumption | refine Ext.setCell ?_ (by first | (simp; done) | (simp; omega)) _ | refine Ext.drewN ?_ _ | refine Ext.alloc ?_ _ | refine Ext.drew ?_ | refine Ext.trans ?_ (by assumption)))
      clear hK K
      refine wpAnyH_take (i := 26) (oi := ?o1x26) (v := ?v1x26) ?hi1x26 (by kernel_rfl) ?hf1x26 ?hr1x26 (fun _ _ _ h => h) ?hy1x26 (by assumption) ?rest1x26
      case hi1x26 => (simp only [List.getElem?_toArray, List.getElem?_cons_succ, List.getElem?_cons_zero]; exact rfl)
      case hf1x26 => kernel_rfl
      case hr1x26 => kernel_rfl
      case hy1x26 => (refine Or.inl ⟨by rfl, ?_⟩; intro w hSw; (try dsimp only at hSw); go_simp; try with_reducible rfl)
      simp only [put_mk, List.set_cons_succ, List.set_cons_zero]
      refine wpAnyH_done (by kernel_rfl) ?_ _
      refine NoPanic.normal ?_
      go_wp2_with fail
      go_meet
      case rel => exact ⟨by rw [← hv.out], (by repeat (first | exact Ext.refl _ | assumption | refine Ext.setCell ?_ (by first | (simp; done) | (simp; omega)) _ | refine Ext.drewN ?_ _ | refine Ext.alloc ?_ _ | refine Ext.drew ?_ | refine Ext.trans ?_ (by assumption)))⟩
    · have hv : Hid (firstE [n4, 3] = own) := by show _ = _; rw [Hown.out]; simp
      clear Hown
      refine wp_region_noPanic ?_
      refine wp_region_held_drew (S := fun w' => Ext w2 w') (by kernel_rfl) ?_ (fun hHeld => ?_)
      · (repeat (first | exact Ext.refl _ | assumption | refine Ext.setCell ?_ (by first | (simp; done) | (simp; omega)) _ | refine Ext.drewN ?_ _ | refine Ext.alloc ?_ _ | refine Ext.drew ?_ | refine Ext.trans ?_ (by assumption)))
      refine wpAnyH_take (i := 0) (oi := ?o2x0) (v := ?v2x0) ?hi2x0 (by kernel_rfl) ?hf2x0 ?hr2x0 (fun _ _ _ h => h) ?hy2x0 (by assumption) ?rest2x0
      case hi2x0 => (simp only [List.getElem?_toArray, List.getElem?_cons_zero]; exact rfl)
      case hf2x0 => kernel_rfl
      case hr2x0 => kernel_rfl
      case hy2x0 => (refine Or.inl ⟨by rfl, ?_⟩; intro w hSw; (try dsimp only at hSw); go_simp; try with_reducible rfl)
      simp only [put_mk, List.set_cons_succ, List.set_cons_zero]
      refine wpAnyH_take (i := 1) (oi := ?o2x1) (v := ?v2x1) ?hi2x1 (by kernel_rfl) ?hf2x1 ?hr2x1 (fun _ _ _ h => h) ?hy2x1 (by assumption) ?rest2x1
      case hi2x1 => (simp only [List.getElem?_toArray, List.getElem?_cons_succ, List.getElem?_cons_zero]; exact rfl)
      case hf2x1 => kernel_rfl
      case hr2x1 => kernel_rfl
      case hy2x1 => (refine Or.inl ⟨by rfl, ?_⟩; intro w hSw; (try dsimp only at hSw); go_simp; try with_reducible rfl)
      simp only [put_mk, List.set_cons_succ, List.set_cons_zero]
      refine wpAnyH_take (i := 2) (oi := ?o2x2) (v := ?v2x2) ?hi2x2 (by kernel_rfl) ?hf2x2 ?hr2x2 (fun _ _ _ h => h) ?hy2x2 (by assumption) ?rest2x2
      case hi2x2 => (simp only [List.getElem?_toArray, List.getElem?_cons_succ, List.getElem?_cons_zero]; exact rfl)
      case hf2x2 => kernel_rfl
      case hr2x2 => kernel_rfl
      case hy2x2 => (refine Or.inl ⟨by rfl, ?_⟩; intro w hSw; (try dsimp only at hSw); go_simp; try with_reducible rfl)
      simp only [put_mk, List.set_cons_succ, List.set_cons_zero]
      refine wpAnyH_take (i := 3) (oi := ?o2x3) (v := ?v2x3) ?hi2x3 (by kernel_rfl) ?hf2x3 ?hr2x3 (fun _ _ _ h => h) ?hy2x3 (by assumption) ?rest2x3
      case hi2x3 => (simp only [List.getElem?_toArray, List.getElem?_cons_succ, List.getElem?_cons_zero]; exact rfl)
      case hf2x3 => kernel_rfl
      case hr2x3 => kernel_rfl
      case hy2x3 => (refine Or.inl ⟨by rfl, ?_⟩; intro w hSw; (try dsimp only at hSw); go_simp; try with_reducible rfl)
      simp only [put_mk, List.set_cons_succ, List.set_cons_zero]
      refine wpAnyH_take (i := 4) (oi := ?o2x4) (v := ?v2x4) ?hi2x4 (by kernel_rfl) ?hf2x4 ?hr2x4 (fun _ _ _ h => h) ?hy2x4 (by assumption) ?rest2x4
      case hi2x4 => (simp only [List.getElem?_toArray, List.getElem?_cons_succ, List.getElem?_cons_zero]; exact rfl)
      case hf2x4 => kernel_rfl
      case hr2x4 => kernel_rfl
      case hy2x4 => (refine Or.inl ⟨by rfl, ?_⟩; intro w hSw; (try dsimp only at hSw); go_simp; try with_reducible rfl)
      simp only [put_mk, List.set_cons_succ, List.set_cons_zero]
      refine wpAnyH_take (i := 5) (oi := ?o2x5) (v := ?v2x5) ?hi2x5 (by kernel_rfl) ?hf2x5 ?hr2x5 (fun _ _ _ h => h) ?hy2x5 (by assumption) ?rest2x5
      case hi2x5 => (simp only [List.getElem?_toArray, List.getElem?_cons_succ, List.getElem?_cons_zero]; exact rfl)
      case hf2x5 => kernel_rfl
      case hr2x5 => kernel_rfl
      case hy2x5 => (refine Or.inl ⟨by rfl, ?_⟩; intro w hSw; (try dsimp only at hSw); go_simp; try with_reducible rfl)
      simp only [put_mk, List.set_cons_succ, List.set_cons_zero]
      refine wpAnyH_take (i := 6) (oi := ?o2x6) (v := ?v2x6) ?hi2x6 (by kernel_rfl) ?hf2x6 ?hr2x6 (fun _ _ _ h => h) ?hy2x6 (by assumption) ?rest2x6
      case hi2x6 => (simp only [List.getElem?_toArray, List.getElem?_cons_succ, List.getElem?_cons_zero]; exact rfl)
      case hf2x6 => kernel_rfl
      case hr2x6 => kernel_rfl
      case hy2x6 => (refine Or.inl ⟨by rfl, ?_⟩; intro w hSw; (try dsimp only at hSw); go_simp; try with_reducible rfl)
      simp only [put_mk, List.set_cons_succ, List.set_cons_zero]
      refine wpAnyH_take (i := 7) (oi := ?o2x7) (v := ?v2x7) ?hi2x7 (by kernel_rfl) ?hf2x7 ?hr2x7 (fun _ _ _ h => h) ?hy2x7 (by assumption) ?rest2x7
      case hi2x7 => (simp only [List.getElem?_toArray, List.getElem?_cons_succ, List.getElem?_cons_zero]; exact rfl)
      case hf2x7 => kernel_rfl
      case hr2x7 => kernel_rfl
      case hy2x7 => (refine Or.inl ⟨by rfl, ?_⟩; intro w hSw; (try dsimp only at hSw); go_simp; try with_reducible rfl)
      simp only [put_mk, List.set_cons_succ, List.set_cons_zero]
      refine wpAnyH_take (i := 10) (oi := ?o2x10) (v := ?v2x10) ?hi2x10 (by kernel_rfl) ?hf2x10 ?hr2x10 (fun _ _ _ h => h) ?hy2x10 (by assumption) ?rest2x10
      case hi2x10 => (simp only [List.getElem?_toArray, List.getElem?_cons_succ, List.getElem?_cons_zero]; exact rfl)
      case hf2x10 => kernel_rfl
      case hr2x10 => kernel_rfl
      case hy2x10 => (refine Or.inl ⟨by rfl, ?_⟩; intro w hSw; (try dsimp only at hSw); go_simp; try with_reducible rfl)
      simp only [put_mk, List.set_cons_succ, List.set_cons_zero]
      refine wpAnyH_take (i := 11) (oi := ?o2x11) (v := ?v2x11) ?hi2x11 (by kernel_rfl) ?hf2x11 ?hr2x11 (fun _ _ _ h => h) ?hy2x11 (by assumption) ?rest2x11
      case hi2x11 => (simp only [List.getElem?_toArray, List.getElem?_cons_succ, List.getElem?_cons_zero]; exact rfl)
      case hf2x11 => kernel_rfl
      case hr2x11 => kernel_rfl
      case hy2x11 => (refine Or.inl ⟨by rfl, ?_⟩; intro w hSw; (try dsimp only at hSw); go_simp; try with_reducible rfl)
      simp only [put_mk, List.set_cons_succ, List.set_cons_zero]
      refine wpAnyH_take (i := 12) (oi := ?o2x12) (v := ?v2x12) ?hi2x12 (by kernel_rfl) ?hf2x12 ?hr2x12 (fun _ _ _ h => h) ?hy2x12 (by assumption) ?rest2x12
      case hi2x12 => (simp only [List.getElem?_toArray, List.getElem?_cons_succ, List.getElem?_cons_zero]; exact rfl)
      case hf2x12 => kernel_rfl
      case hr2x12 => kernel_rfl
      case hy2x12 => (refine Or.inl ⟨by rfl, ?_⟩; intro w hSw; (try dsimp only at hSw); go_simp; try with_reducible rfl)
      simp only [put_mk, List.set_cons_succ, List.set_cons_zero]
      refine wpAnyH_ready (rs := [8]) (by kernel_rfl) (by simp) ?_
      refine AllReadyH.cons (o := ?o2x8) ?hi2x8 (fun K hK => ?_) AllReadyH.nil
      case hi2x8 => (simp only [List.getElem?_toArray, List.getElem?_cons_succ, List.getElem?_cons_zero]; exact rfl)
      go_simp
      refine hK.out _ _ ?_ (fun hHeld => ?_)
      · (repeat (first | exact Ext.refl _ | assumption | refine Ext.setCell ?_ (by first | (simp; done) | (simp; omega)) _ | refine Ext.drewN ?_ _ | refine Ext.alloc ?_ _ | refine Ext.drew ?_ | refine Ext.trans ?_ (by assumption)))
      clear hK K
      refine wpAnyH_ready (rs := [9]) (by kernel_rfl) (by simp) ?_
      refine AllReadyH.cons (o := ?o2x9) ?hi2x9 (fun K hK => ?_) AllReadyH.nil
      case hi2x9 => (simp only [List.getElem?_toArray, List.getElem?_cons_succ, List.getElem?_cons_zero]; exact rfl)
      go_simp
      refine ((HNu _ _ (Rd.ext (Rd.new (by first | rfl | simp) (by first | rfl | simp)) (Ext.refl _).drew)).out).mono ?_
      rintro e w3 ⟨rfl, hw3⟩
      have hx3 : Ext w2 w3 := by rw [← hw3]; (repeat (first | exact Ext.refl _ | assumption | refine Ext.setCell ?_ (by first | (simp; done) | (simp; omega)) _ | refine Ext.drewN ?_ _ | refine Ext.alloc ?_ _ | refine Ext.drew ?_ | refine Ext.trans ?_ (by assumption)))
      clear hw3
      refine hK.out _ _ ?_ (fun hHeld => ?_)
      · (repeat (first | exact Ext.refl _ | assumption | refine Ext.setCell ?_ (by first | (simp; done) | (simp; omega)) _ | refine Ext.drewN ?_ _ | refine Ext.alloc ?_ _ | refine Ext.drew ?_ | refine Ext.trans ?_ (by assumption)))
      clear hK K
      refine wpAnyH_take (i := 13) (oi := ?o2x13) (v := ?v2x13) ?hi2x13 (by kernel_rfl) ?hf2x13 ?hr2x13 (fun _ _ _ h => h) ?hy2x13 (by assumption) ?rest2x13
      case hi2x13 => (simp only [List.getElem?_toArray, List.getElem?_cons_succ, List.getElem?_cons_zero]; exact rfl)
      case hf2x13 => kernel_rfl
      case hr2x13 => kernel_rfl
      case hy2x13 => (refine Or.inl ⟨by rfl, ?_⟩; intro w hSw; (try dsimp only at hSw); go_simp; try with_reducible rfl)
      simp only [put_mk, List.set_cons_succ, List.set_cons_zero]
      refine wpAnyH_take (i := 14) (oi := ?o2x14) (v := ?v2x14) ?hi2x14 (by kernel_rfl) ?hf2x14 ?hr2x14 (fun _ _ _ h => h) ?hy2x14 (by assumption) ?rest2x14
      case hi2x14 => (simp only [List.getElem?_toArray, List.getElem?_cons_succ, List.getElem?_cons_zero]; exact rfl)
      case hf2x14 => kernel_rfl
      case hr2x14 => kernel_rfl
      case hy2x14 => (refine Or.inl ⟨by rfl, ?_⟩; intro w hSw; (try dsimp only at hSw); go_simp; try with_reducible rfl)
      simp only [put_mk, List.set_cons_succ, List.set_cons_zero]
      refine wpAnyH_take (i := 15) (oi := ?o2x15) (v := ?v2x15) ?hi2x15 (by kernel_rfl) ?hf2x15 ?hr2x15 (fun _ _ _ h => h) ?hy2x15 (by assumption) ?rest2x15
      case hi2x15 => (simp only [List.getElem?_toArray, List.getElem?_cons_succ, List.getElem?_cons_zero]; exact rfl)
      case hf2x15 => kernel_rfl
      case hr2x15 => kernel_rfl
      case hy2x15 => (refine Or.inl ⟨by rfl, ?_⟩; intro w hSw; (try dsimp only at hSw); go_simp; try with_reducible rfl)
      simp only [put_mk, List.set_cons_succ, List.set_cons_zero]
      refine wpAnyH_take (i := 16) (oi := ?o2x16) (v := ?v2x16) ?hi2x16 (by kernel_rfl) ?hf2x16 ?hr2x16 (fun _ _ _ h => h) ?hy2x16 (by assumption) ?rest2x16
      case hi2x16 => (simp only [List.getElem?_toArray, List.getElem?_cons_succ, List.getElem?_cons_zero]; exact rfl)
      case hf2x16 => kernel_rfl
      case hr2x16 => kernel_rfl
      case hy2x16 => (refine Or.inl ⟨by rfl, ?_⟩; intro w hSw; (try dsimp only at hSw); go_simp; try with_reducible rfl)
      simp only [put_mk, List.set_cons_succ, List.set_cons_zero]
      refine wpAnyH_take (i := 17) (oi := ?o2x17) (v := ?v2x17) ?hi2x17 (by kernel_rfl) ?hf2x17 ?hr2x17 (fun _ _ _ h => h) ?hy2x17 (by assumption) ?rest2x17
      case hi2x17 => (simp only [List.getElem?_toArray, List.getElem?_cons_succ, List.getElem?_cons_zero]; exact rfl)
      case hf2x17 => kernel_rfl
      case hr2x17 => kernel_rfl
      case hy2x17 => (refine Or.inl ⟨by rfl, ?_⟩; intro w hSw; (try dsimp only at hSw); go_simp; try with_reducible rfl)
      simp only [put_mk, List.set_cons_succ, List.set_cons_zero]
      refine wpAnyH_take (i := 18) (oi := ?o2x18) (v := ?v2x18) ?hi2x18 (by kernel_rfl) ?hf2x18 ?hr2x18 (fun _ _ _ h => h) ?hy2x18 (by assumption) ?rest2x18
      case hi2x18 => (simp only [List.getElem?_toArray, List.getElem?_cons_succ, List.getElem?_cons_zero]; exact rfl)
      case hf2x18 => kernel_rfl
      case hr2x18 => kernel_rfl
      case hy2x18 => (refine Or.inl ⟨by rfl, ?_⟩; intro w hSw; (try dsimp only at hSw); go_simp; try with_reducible rfl)
      simp only [put_mk, List.set_cons_succ, List.set_cons_zero]
      refine wpAnyH_take (i := 19) (oi := ?o2x19) (v := undef) ?hi2x19 (by kernel_rfl) ?hf2x19 ?hr2x19 (fun _ _ _ h => h) ?hy2x19 (by assumption) ?rest2x19
      case hi2x19 => (simp only [List.getElem?_toArray, List.getElem?_cons_succ, List.getElem?_cons_zero]; exact rfl)
      case hf2x19 => kernel_rfl
      case hr2x19 => kernel_rfl
      case hy2x19 => exact Or.inr ⟨by rfl, rfl⟩
      simp only [put_mk, List.set_cons_succ, List.set_cons_zero]
      refine wpAnyH_take (i := 20) (oi := ?o2x20) (v := undef) ?hi2x20 (by kernel_rfl) ?hf2x20 ?hr2x20 (fun _ _ _ h => h) ?hy2x20 (by assumption) ?rest2x20
      case hi2x20 => (simp only [List.getElem?_toArray, List.getElem?_cons_succ, List.getElem?_cons_zero]; exact rfl)
      case hf2x20 => kernel_rfl
      case hr2x20 => kernel_rfl
      case hy2x20 => exact Or.inr ⟨by rfl, rfl⟩
      simp only [put_mk, List.set_cons_succ, List.set_cons_zero]
      refine wpAnyH_take (i := 21) (oi := ?o2x21) (v := undef) ?hi2x21 (by kernel_rfl) ?hf2x21 ?hr2x21 (fun _ _ _ h => h) ?hy2x21 (by assumption) ?rest2x21
      case hi2x21 => (simp only [List.getElem?_toArray, List.getElem?_cons_succ, List.getElem?_cons_zero]; exact rfl)
      case hf2x21 => kernel_rfl
      case hr2x21 => kernel_rfl
      case hy2x21 => exact Or.inr ⟨by rfl, rfl⟩
      simp only [put_mk, List.set_cons_succ, List.set_cons_zero]
      refine wpAnyH_take (i := 22) (oi := ?o2x22) (v := ?v2x22) ?hi2x22 (by kernel_rfl) ?hf2x22 ?hr2x22 (fun _ _ _ h => h) ?hy2x22 (by assumption) ?rest2x22
      case hi2x22 => (simp only [List.getElem?_toArray, List.getElem?_cons_succ, List.getElem?_cons_zero]; exact rfl)
      case hf2x22 => kernel_rfl
      case hr2x22 => kernel_rfl
      case hy2x22 => (refine Or.inl ⟨by rfl, ?_⟩; intro w hSw; (try dsimp only at hSw); go_simp; try with_reducible rfl)
      simp only [put_mk, List.set_cons_succ, List.set_cons_zero]
      refine wpAnyH_ready (rs := [23]) (by kernel_rfl) (by simp) ?_
      refine AllReadyH.cons (o := ?o2x23) ?hi2x23 (fun K hK => ?_) AllReadyH.nil
      case hi2x23 => (simp only [List.getElem?_toArray, List.getElem?_cons_succ, List.getElem?_cons_zero]; exact rfl)
      go_simp
      refine ((HWh _ _ _).out).mono ?_
      rintro e w4 ⟨rfl, rfl⟩
      refine hK.out _ _ ?_ (fun hHeld => ?_)
      · (repeat (first | exact Ext.refl _ | assumption | refine Ext.setCell ?_ (by first | (simp; done) | (simp; omega)) _ | refine Ext.drewN ?_ _ | refine Ext.alloc ?_ _ | refine Ext.drew ?_ | refine Ext.trans ?_ (by assumption)))
      clear hK K
      refine wpAnyH_ready (rs := [24]) (by kernel_rfl) (by simp) ?_
      refine AllReadyH.cons (o := ?o2x24) ?hi2x24 (fun K hK => ?_) AllReadyH.nil
      case hi2x24 => (simp only [List.getElem?_toArray, List.getElem?_cons_succ, List.getElem?_cons_zero]; exact rfl)
      go_simp
      refine hK.out _ _ ?_ (fun hHeld => ?_)
      · (repeat (first | exact Ext.refl _ | assumption | refine Ext.setCell ?_ (by first | (simp; done) | (simp; omega)) _ | refine Ext.drewN ?_ _ | refine Ext.alloc ?_ _ | refine Ext.drew ?_ | refine Ext.trans ?_ (by assumption)))
      clear hK K
      refine wpAnyH_ready (rs := [25]) (by kernel_rfl) (by simp) ?_
      refine AllReadyH.cons (o := ?o2x25) ?hi2x25 (fun K hK => ?_) AllReadyH.nil
      case hi2x25 => (simp only [List.getElem?_toArray, List.getElem?_cons_succ, List.getElem?_cons_zero]; exact rfl)
      go_simp
      refine ((HS _ _ _ _ (Rd.new (by first | rfl | simp) (by first | rfl | simp))).out).mono ?_
      rintro e w5 ⟨rfl, hw5⟩
      have hx5 : Ext w2 w5 := by rw [← hw5]; (repeat (first | exact Ext.refl _ | assumption | refine Ext.setCell ?_ (by first | (simp; done) | (simp; omega)) _ | refine Ext.drewN ?_ _ | refine Ext.alloc ?_ _ | refine Ext.drew ?_ | refine Ext.trans ?_ (by assumption)))
      clear hw5
      refine hK.out _ _ ?_ (fun hHeld => ?_)
      · (repeat (first | exact Ext.refl _ | assumption | refine Ext.setCell ?_ (by first | (simp; done) | (simp; omega)) _ | refine Ext.drewN ?_ _ | refine Ext.alloc ?_ _ | refine Ext.drew ?_ | refine Ext.trans ?_ (by assumption)))
      clear hK K
      refine wpAnyH_take (i := 26) (oi := ?o2x26) (v := ?v2x26) ?hi2x26 (by kernel_rfl) ?hf2x26 ?hr2x26 (fun _ _ _ h => h) ?hy2x26 (by assumption) ?rest2x26
      case hi2x26 => (simp only [List.getElem?_toArray, List.getElem?_cons_succ, List.getElem?_cons_zero]; exact rfl)
      case hf2x26 => kernel_rfl
      case hr2x26 => kernel_rfl
      case hy2x26 => (refine Or.inl ⟨by rfl, ?_⟩; intro w hSw; (try dsimp only at hSw); go_simp; try with_reducible rfl)
      simp only [put_mk, List.set_cons_succ, List.set_cons_zero]
      refine wpAnyH_done (by kernel_rfl) ?_ _
      refine NoPanic.normal ?_
      go_wp2_with fail
      go_meet
      case rel => exact ⟨by rw [← hv.out], (by repeat (first | exact Ext.refl _ | assumption | refine Ext.setCell ?_ (by first | (simp; done) | (simp; omega)) _ | refine Ext.drewN ?_ _ | refine Ext.alloc ?_ _ | refine Ext.drew ?_ | refine Ext.trans ?_ (by assumption)))⟩
    · have hv : Hid (firstE [n4, 3] = own) := by show _ = _; rw [Hown.out]; simp
      clear Hown
      refine wp_region_noPanic ?_
      refine wp_region_held_drew (S := fun w' => Ext w2 w') (by kernel_rfl) ?_ (fun hHeld => ?_)
      · (repeat (first | exact Ext.refl _ | assumption | refine Ext.setCell ?_ (by first | (simp; done) | (simp; omega)) _ | refine Ext.drewN ?_ _ | refine Ext.alloc ?_ _ | refine Ext.drew ?_ | refine Ext.trans ?_ (by assumption)))
      refine wpAnyH_take (i := 0) (oi := ?o3x0) (v := ?v3x0) ?hi3x0 (by kernel_rfl) ?hf3x0 ?hr3x0 (fun _ _ _ h => h) ?hy3x0 (by assumption) ?rest3x0
      case hi3x0 => (simp only [List.getElem?_toArray, List.getElem?_cons_zero]; exact rfl)
      case hf3x0 => kernel_rfl
      case hr3x0 => kernel_rfl
      case hy3x0 => (refine Or.inl ⟨by rfl, ?_⟩; intro w hSw; (try dsimp only at hSw); go_simp; try with_reducible rfl)
      simp only [put_mk, List.set_cons_succ, List.set_cons_zero]
      refine wpAnyH_take (i := 1) (oi := ?o3x1) (v := ?v3x1) ?hi3x1 (by kernel_rfl) ?hf3x1 ?hr3x1 (fun _ _ _ h => h) ?hy3x1 (by assumption) ?rest3x1
      case hi3x1 => (simp only [List.getElem?_toArray, List.getElem?_cons_succ, List.getElem?_cons_zero]; exact rfl)
      case hf3x1 => kernel_rfl
      case hr3x1 => kernel_rfl
      case hy3x1 => (refine Or.inl ⟨by rfl, ?_⟩; intro w hSw; (try dsimp only at hSw); go_simp; try with_reducible rfl)
      simp only [put_mk, List.set_cons_succ, List.set_cons_zero]
      refine wpAnyH_take (i := 2) (oi := ?o3x2) (v := ?v3x2) ?hi3x2 (by kernel_rfl) ?hf3x2 ?hr3x2 (fun _ _ _ h => h) ?hy3x2 (by assumption) ?rest3x2
      case hi3x2 => (simp only [List.getElem?_toArray, List.getElem?_cons_succ, List.getElem?_cons_zero]; exact rfl)
      case hf3x2 => kernel_rfl
      case hr3x2 => kernel_rfl
      case hy3x2 => (refine Or.inl ⟨by rfl, ?_⟩; intro w hSw; (try dsimp only at hSw); go_simp; try with_reducible rfl)
      simp only [put_mk, List.set_cons_succ, List.set_cons_zero]
      refine wpAnyH_take (i := 3) (oi := ?o3x3) (v := ?v3x3) ?hi3x3 (by kernel_rfl) ?hf3x3 ?hr3x3 (fun _ _ _ h => h) ?hy3x3 (by assumption) ?rest3x3
      case hi3x3 => (simp only [List.getElem?_toArray, List.getElem?_cons_succ, List.getElem?_cons_zero]; exact rfl)
      case hf3x3 => kernel_rfl
      case hr3x3 => kernel_rfl
      case hy3x3 => (refine Or.inl ⟨by rfl, ?_⟩; intro w hSw; (try dsimp only at hSw); go_simp; try with_reducible rfl)
      simp only [put_mk, List.set_cons_succ, List.set_cons_zero]
      refine wpAnyH_take (i := 4) (oi := ?o3x4) (v := ?v3x4) ?hi3x4 (by kernel_rfl) ?hf3x4 ?hr3x4 (fun _ _ _ h => h) ?hy3x4 (by assumption) ?rest3x4
      case hi3x4 => (simp only [List.getElem?_toArray, List.getElem?_cons_succ, List.getElem?_cons_zero]; exact rfl)
      case hf3x4 => kernel_rfl
      case hr3x4 => kernel_rfl
      case hy3x4 => (refine Or.inl ⟨by rfl, ?_⟩; intro w hSw; (try dsimp only at hSw); go_simp; try with_reducible rfl)
      simp only [put_mk, List.set_cons_succ, List.set_cons_zero]
      refine wpAnyH_take (i := 5) (oi := ?o3x5) (v := ?v3x5) ?hi3x5 (by kernel_rfl) ?hf3x5 ?hr3x5 (fun _ _ _ h => h) ?hy3x5 (by assumption) ?rest3x5
      case hi3x5 => (simp only [List.getElem?_toArray, List.getElem?_cons_succ, List.getElem?_cons_zero]; exact rfl)
      case hf3x5 => kernel_rfl
      case hr3x5 => kernel_rfl
      case hy3x5 => (refine Or.inl ⟨by rfl, ?_⟩; intro w hSw; (try dsimp only at hSw); go_simp; try with_reducible rfl)
      simp only [put_mk, List.set_cons_succ, List.set_cons_zero]
      refine wpAnyH_take (i := 6) (oi := ?o3x6) (v := ?v3x6) ?hi3x6 (by kernel_rfl) ?hf3x6 ?hr3x6 (fun _ _ _ h => h) ?hy3x6 (by assumption) ?rest3x6
      case hi3x6 => (simp only [List.getElem?_toArray, List.getElem?_cons_succ, List.getElem?_cons_zero]; exact rfl)
      case hf3x6 => kernel_rfl
      case hr3x6 => kernel_rfl
      case hy3x6 => (refine Or.inl ⟨by rfl, ?_⟩; intro w hSw; (try dsimp only at hSw); go_simp; try with_reducible rfl)
      simp only [put_mk, List.set_cons_succ, List.set_cons_zero]
      refine wpAnyH_take (i := 7) (oi := ?o3x7) (v := ?v3x7) ?hi3x7 (by kernel_rfl) ?hf3x7 ?hr3x7 (fun _ _ _ h => h) ?hy3x7 (by assumption) ?rest3x7
      case hi3x7 => (simp only [List.getElem?_toArray, List.getElem?_cons_succ, List.getElem?_cons_zero]; exact rfl)
      case hf3x7 => kernel_rfl
      case hr3x7 => kernel_rfl
      case hy3x7 => (refine Or.inl ⟨by rfl, ?_⟩; intro w hSw; (try dsimp only at hSw); go_simp; try with_reducible rfl)
      simp only [put_mk, List.set_cons_succ, List.set_cons_zero]
      refine wpAnyH_take (i := 10) (oi := ?o3x10) (v := ?v3x10) ?hi3x10 (by kernel_rfl) ?hf3x10 ?hr3x10 (fun _ _ _ h => h) ?hy3x10 (by assumption) ?rest3x10
      case hi3x10 => (simp only [List.getElem?_toArray, List.getElem?_cons_succ, List.getElem?_cons_zero]; exact rfl)
      case hf3x10 => kernel_rfl
      case hr3x10 => kernel_rfl
      case hy3x10 => (refine Or.inl ⟨by rfl, ?_⟩; intro w hSw; (try dsimp only at hSw); go_simp; try with_reducible rfl)
      simp only [put_mk, List.set_cons_succ, List.set_cons_zero]
      refine wpAnyH_take (i := 11) (oi := ?o3x11) (v := ?v3x11) ?hi3x11 (by kernel_rfl) ?hf3x11 ?hr3x11 (fun _ _ _ h => h) ?hy3x11 (by assumption) ?rest3x11
      case hi3x11 => (simp only [List.getElem?_toArray, List.getElem?_cons_succ, List.getElem?_cons_zero]; exact rfl)
      case hf3x11 => kernel_rfl
      case hr3x11 => kernel_rfl
      case hy3x11 => (refine Or.inl ⟨by rfl, ?_⟩; intro w hSw; (try dsimp only at hSw); go_simp; try with_reducible rfl)
      simp only [put_mk, List.set_cons_succ, List.set_cons_zero]
      refine wpAnyH_take (i := 12) (oi := ?o3x12) (v := ?v3x12) ?hi3x12 (by kernel_rfl) ?hf3x12 ?hr3x12 (fun _ _ _ h => h) ?hy3x12 (by assumption) ?rest3x12
      case hi3x12 => (simp only [List.getElem?_toArray, List.getElem?_cons_succ, List.getElem?_cons_zero]; exact rfl)
      case hf3x12 => kernel_rfl
      case hr3x12 => kernel_rfl
      case hy3x12 => (refine Or.inl ⟨by rfl, ?_⟩; intro w hSw; (try dsimp only at hSw); go_simp; try with_reducible rfl)
      simp only [put_mk, List.set_cons_succ, List.set_cons_zero]
      refine wpAnyH_ready (rs := [8]) (by kernel_rfl) (by simp) ?_
      refine AllReadyH.cons (o := ?o3x8) ?hi3x8 (fun K hK => ?_) AllReadyH.nil
      case hi3x8 => (simp only [List.getElem?_toArray, List.getElem?_cons_succ, List.getElem?_cons_zero]; exact rfl)
      go_simp
      refine hK.out _ _ ?_ (fun hHeld => ?_)
      · (repeat (first | exact Ext.refl _ | assumption | refine Ext.setCell ?_ (by first | (simp; done) | (simp; omega)) _ | refine Ext.drewN ?_ _ | refine Ext.alloc ?_ _ | refine Ext.drew ?_ | refine Ext.trans ?_ (by assumption)))
      clear hK K
      refine wpAnyH_ready (rs := [9]) (by kernel_rfl) (by simp) ?_
      refine AllReadyH.cons (o := ?o3x9) ?hi3x9 (fun K hK => ?_) AllReadyH.nil
      case hi3x9 => (simp only [List.getElem?_toArray, List.getElem?_cons_succ, List.getElem?_cons_zero]; exact rfl)
      go_simp
      refine ((HNu _ _ (Rd.ext (Rd.new (by first | rfl | simp) (by first | rfl | simp)) (Ext.refl _).drew)).out).mono ?_
      rintro e w3 ⟨rfl, hw3⟩
      have hx3 : Ext w2 w3 := by rw [← hw3]; (repeat (first | exact Ext.refl _ | assumption | refine Ext.setCell ?_ (by first | (simp; done) | (simp; omega)) _ | refine Ext.drewN ?_ _ | refine Ext.alloc ?_ _ | refine Ext.drew ?_ | refine Ext.trans ?_ (by assumption)))
      clear hw3
      refine hK.out _ _ ?_ (fun hHeld => ?_)
      · (repeat (first | exact Ext.refl _ | assumption | refine Ext.setCell ?_ (by first | (simp; done) | (simp; omega)) _ | refine Ext.drewN ?_ _ | refine Ext.alloc ?_ _ | refine Ext.drew ?_ | refine Ext.trans ?_ (by assumption)))
      clear hK K
      refine wpAnyH_take (i := 13) (oi := ?o3x13) (v := ?v3x13) ?hi3x13 (by kernel_rfl) ?hf3x13 ?hr3x13 (fun _ _ _ h => h) ?hy3x13 (by assumption) ?rest3x13
      case hi3x13 => (simp only [List.getElem?_toArray, List.getElem?_cons_succ, List.getElem?_cons_zero]; exact rfl)
      case hf3x13 => kernel_rfl
      case hr3x13 => kernel_rfl
      case hy3x13 => (refine Or.inl ⟨by rfl, ?_⟩; intro w hSw; (try dsimp only at hSw); go_simp; try with_reducible rfl)
      simp only [put_mk, List.set_cons_succ, List.set_cons_zero]
      refine wpAnyH_take (i := 14) (oi := ?o3x14) (v := ?v3x14) ?hi3x14 (by kernel_rfl) ?hf3x14 ?hr3x14 (fun _ _ _ h => h) ?hy3x14 (by assumption) ?rest3x14
      case hi3x14 => (simp only [List.getElem?_toArray, List.getElem?_cons_succ, List.getElem?_cons_zero]; exact rfl)
      case hf3x14 => kernel_rfl
      case hr3x14 => kernel_rfl
      case hy3x14 => (refine Or.inl ⟨by rfl, ?_⟩; intro w hSw; (try dsimp only at hSw); go_simp; try with_reducible rfl)
      simp only [put_mk, List.set_cons_succ, List.set_cons_zero]
      refine wpAnyH_take (i := 15) (oi := ?o3x15) (v := ?v3x15) ?hi3x15 (by kernel_rfl) ?hf3x15 ?hr3x15 (fun _ _ _ h => h) ?hy3x15 (by assumption) ?rest3x15
      case hi3x15 => (simp only [List.getElem?_toArray, List.getElem?_cons_succ, List.getElem?_cons_zero]; exact rfl)
      case hf3x15 => kernel_rfl
      case hr3x15 => kernel_rfl
      case hy3x15 => (refine Or.inl ⟨by rfl, ?_⟩; intro w hSw; (try dsimp only at hSw); go_simp; try with_reducible rfl)
      simp only [put_mk, List.set_cons_succ, List.set_cons_zero]
      refine wpAnyH_take (i := 16) (oi := ?o3x16) (v := ?v3x16) ?hi3x16 (by kernel_rfl) ?hf3x16 ?hr3x16 (fun _ _ _ h => h) ?hy3x16 (by assumption) ?rest3x16
      case hi3x16 => (simp only [List.getElem?_toArray, List.getElem?_cons_succ, List.getElem?_cons_zero]; exact rfl)
      case hf3x16 => kernel_rfl
      case hr3x16 => kernel_rfl
      case hy3x16 => (refine Or.inl ⟨by rfl, ?_⟩; intro w hSw; (try dsimp only at hSw); go_simp; try with_reducible rfl)
      simp only [put_mk, List.set_cons_succ, List.set_cons_zero]
      refine wpAnyH_take (i := 17) (oi := ?o3x17) (v := ?v3x17) ?hi3x17 (by kernel_rfl) ?hf3x17 ?hr3x17 (fun _ _ _ h => h) ?hy3x17 (by assumption) ?rest3x17
      case hi3x17 => (simp only [List.getElem?_toArray, List.getElem?_cons_succ, List.getElem?_cons_zero]; exact rfl)
      case hf3x17 => kernel_rfl
      case hr3x17 => kernel_rfl
      case hy3x17 => (refine Or.inl ⟨by rfl, ?_⟩; intro w hSw; (try dsimp only at hSw); go_simp; try with_reducible rfl)
      simp only [put_mk, List.set_cons_succ, List.set_cons_zero]
      refine wpAnyH_take (i := 18) (oi := ?o3x18) (v := ?v3x18) ?hi3x18 (by kernel_rfl) ?hf3x18 ?hr3x18 (fun _ _ _ h => h) ?hy3x18 (by assumption) ?rest3x18
      case hi3x18 => (simp only [List.getElem?_toArray, List.getElem?_cons_succ, List.getElem?_cons_zero]; exact rfl)
      case hf3x18 => kernel_rfl
      case hr3x18 => kernel_rfl
      case hy3x18 => (refine Or.inl ⟨by rfl, ?_⟩; intro w hSw; (try dsimp only at hSw); go_simp; try with_reducible rfl)
      simp only [put_mk, List.set_cons_succ, List.set_cons_zero]
      refine wpAnyH_take (i := 19) (oi := ?o3x19) (v := ?v3x19) ?hi3x19 (by kernel_rfl) ?hf3x19 ?hr3x19 (fun _ _ _ h => h) ?hy3x19 (by assumption) ?rest3x19
      case hi3x19 => (simp only [List.getElem?_toArray, List.getElem?_cons_succ, List.getElem?_cons_zero]; exact rfl)
      case hf3x19 => kernel_rfl
      case hr3x19 => kernel_rfl
      case hy3x19 => (refine Or.inl ⟨by rfl, ?_⟩; intro w hSw; (try dsimp only at hSw); go_simp; try with_reducible rfl)
      simp only [put_mk, List.set_cons_succ, List.set_cons_zero]
      refine wpAnyH_take (i := 20) (oi := ?o3x20) (v := ?v3x20) ?hi3x20 (by kernel_rfl) ?hf3x20 ?hr3x20 (fun _ _ _ h => h) ?hy3x20 (by assumption) ?rest3x20
      case hi3x20 => (simp only [List.getElem?_toArray, List.getElem?_cons_succ, List.getElem?_cons_zero]; exact rfl)
      case hf3x20 => kernel_rfl
      case hr3x20 => kernel_rfl
      case hy3x20 => (refine Or.inl ⟨by rfl, ?_⟩; intro w hSw; (try dsimp only at hSw); go_simp; try with_reducible rfl)
      simp only [put_mk, List.set_cons_succ, List.set_cons_zero]
      refine wpAnyH_take (i := 21) (oi := ?o3x21) (v := ?v3x21) ?hi3x21 (by kernel_rfl) ?hf3x21 ?hr3x21 (fun _ _ _ h => h) ?hy3x21 (by assumption) ?rest3x21
      case hi3x21 => (simp only [List.getElem?_toArray, List.getElem?_cons_succ, List.getElem?_cons_zero]; exact rfl)
      case hf3x21 => kernel_rfl
      case hr3x21 => kernel_rfl
      case hy3x21 => (refine Or.inl ⟨by rfl, ?_⟩; intro w hSw; (try dsimp only at hSw); go_simp; try with_reducible rfl)
      simp only [put_mk, List.set_cons_succ, List.set_cons_zero]
      refine wpAnyH_take (i := 22) (oi := ?o3x22) (v := ?v3x22) ?hi3x22 (by kernel_rfl) ?hf3x22 ?hr3x22 (fun _ _ _ h => h) ?hy3x22 (by assumption) ?rest3x22
      case hi3x22 => (simp only [List.getElem?_toArray, List.getElem?_cons_succ, List.getElem?_cons_zero]; exact rfl)
      case hf3x22 => kernel_rfl
      case hr3x22 => kernel_rfl
      case hy3x22 => (refine Or.inl ⟨by rfl, ?_⟩; intro w hSw; (try dsimp only at hSw); go_simp; try with_reducible rfl)
      simp only [put_mk, List.set_cons_succ, List.set_cons_zero]
      refine wpAnyH_ready (rs := [23]) (by kernel_rfl) (by simp) ?_
      refine AllReadyH.cons (o := ?o3x23) ?hi3x23 (fun K hK => ?_) AllReadyH.nil
      case hi3x23 => (simp only [List.getElem?_toArray, List.getElem?_cons_succ, List.getElem?_cons_zero]; exact rfl)
      go_simp
      refine ((HWh _ _ _).out).mono ?_
      rintro e w4 ⟨rfl, rfl⟩
      refine hK.out _ _ ?_ (fun hHeld => ?_)
      · (repeat (first | exact Ext.refl _ | assumption | refine Ext.setCell ?_ (by first | (simp; done) | (simp; omega)) _ | refine Ext.drewN ?_ _ | refine Ext.alloc ?_ _ | refine Ext.drew ?_ | refine Ext.trans ?_ (by assumption)))
      clear hK K
      refine wpAnyH_ready (rs := [24]) (by kernel_rfl) (by simp) ?_
      refine AllReadyH.cons (o := ?o3x24) ?hi3x24 (fun K hK => ?_) AllReadyH.nil
      case hi3x24 => (simp only [List.getElem?_toArray, List.getElem?_cons_succ, List.getElem?_cons_zero]; exact rfl)
      go_simp
      refine hK.out _ _ ?_ (fun hHeld => ?_)
      · (repeat (first | exact Ext.refl _ | assumption | refine Ext.setCell ?_ (by first | (simp; done) | (simp; omega)) _ | refine Ext.drewN ?_ _ | refine Ext.alloc ?_ _ | refine Ext.drew ?_ | refine Ext.trans ?_ (by assumption)))
      clear hK K
      refine wpAnyH_ready (rs := [25]) (by kernel_rfl) (by simp) ?_
      refine AllReadyH.cons (o := ?o3x25) ?hi3x25 (fun K hK => ?_) AllReadyH.nil
      case hi3x25 => (simp only [List.getElem?_toArray, List.getElem?_cons_succ, List.getElem?_cons_zero]; exact rfl)
      go_simp
      refine ((HS _ _ _ _ (Rd.new (by first | rfl | simp) (by first | rfl | simp))).out).mono ?_
      rintro e w5 ⟨rfl, hw5⟩
      have hx5 : Ext w2 w5 := by rw [← hw5]; (repeat (first | exact Ext.refl _ | assumption | refine Ext.setCell ?_ (by first | (simp; done) | (simp; omega)) _ | refine Ext.drewN ?_ _ | refine Ext.alloc ?_ _ | refine Ext.drew ?_ | refine Ext.trans ?_ (by assumption)))
      clear hw5
      refine hK.out _ _ ?_ (fun hHeld => ?_)
      · (repeat (first | exact Ext.refl _ | assumption | refine Ext.setCell ?_ (by first | (simp; done) | (simp; omega)) _ | refine Ext.drewN ?_ _ | refine Ext.alloc ?_ _ | refine Ext.drew ?_ | refine Ext.trans ?_ (by assumption)))
      clear hK K
      refine wpAnyH_take (i := 26) (oi := ?o3x26) (v := ?v3x26) ?hi3x26 (by kernel_rfl) ?hf3x26 ?hr3x26 (fun _ _ _ h => h) ?hy3x26 (by assumption) ?rest3x26
      case hi3x26 => (simp only [List.getElem?_toArray, List.getElem?_cons_succ, List.getElem?_cons_zero]; exact rfl)
      case hf3x26 => kernel_rfl
      case hr3x26 => kernel_rfl
      case hy3x26 => (refine Or.inl ⟨by rfl, ?_⟩; intro w hSw; (try dsimp only at hSw); go_simp; try with_reducible rfl)
      simp only [put_mk, List.set_cons_succ, List.set_cons_zero]
      refine wpAnyH_done (by kernel_rfl) ?_ _
      refine NoPanic.normal ?_
      go_wp2_with fail
      go_meet
      case rel => exact ⟨by rw [← hv.out], (by repeat (first | exact Ext.refl _ | assumption | refine Ext.setCell ?_ (by first | (simp; done) | (simp; omega)) _ | refine Ext.drewN ?_ _ | refine Ext.alloc ?_ _ | refine Ext.drew ?_ | refine Ext.trans ?_ (by assumption)))⟩
    · have hv : Hid (firstE [n4, 0] = own) := by show _ = _; rw [Hown.out]; simp
      clear Hown
      refine wp_region_noPanic ?_
      refine wp_region_held_drew (S := fun w' => Ext w2 w') (by kernel_rfl) ?_ (fun hHeld => ?_)
      · (repeat (first | exact Ext.refl _ | assumption | refine Ext.setCell ?_ (by first | (simp; done) | (simp; omega)) _ | refine Ext.drewN ?_ _ | refine Ext.alloc ?_ _ | refine Ext.drew ?_ | refine Ext.trans ?_ (by assumption)))
      refine wpAnyH_take (i := 0) (oi := ?o4x0) (v := ?v4x0) ?hi4x0 (by kernel_rfl) ?hf4x0 ?hr4x0 (fun _ _ _ h => h) ?hy4x0 (by assumption) ?rest4x0
      case hi4x0 => (simp only [List.getElem?_toArray, List.getElem?_cons_zero]; exact rfl)
      case hf4x0 => kernel_rfl
      case hr4x0 => kernel_rfl
      case hy4x0 => (refine Or.inl ⟨by rfl, ?_⟩; intro w hSw; (try dsimp only at hSw); go_simp; try with_reducible rfl)
      simp only [put_mk, List.set_cons_succ, List.set_cons_zero]
      refine wpAnyH_take (i := 1) (oi := ?o4x1) (v := ?v4x1) ?hi4x1 (by kernel_rfl) ?hf4x1 ?hr4x1 (fun _ _ _ h => h) ?hy4x1 (by assumption) ?rest4x1
      case hi4x1 => (simp only [List.getElem?_toArray, List.getElem?_cons_succ, List.getElem?_cons_zero]; exact rfl)
      case hf4x1 => kernel_rfl
      case hr4x1 => kernel_rfl
      case hy4x1 => (refine Or.inl ⟨by rfl, ?_⟩; intro w hSw; (try dsimp only at hSw); go_simp; try with_reducible rfl)
      simp only [put_mk, List.set_cons_succ, List.set_cons_zero]
      refine wpAnyH_take (i := 2) (oi := ?o4x2) (v := ?v4x2) ?hi4x2 (by kernel_rfl) ?hf4x2 ?hr4x2 (fun _ _ _ h => h) ?hy4x2 (by assumption) ?rest4x2
      case hi4x2 => (simp only [List.getElem?_toArray, List.getElem?_cons_succ, List.getElem?_cons_zero]; exact rfl)
      case hf4x2 => kernel_rfl
      case hr4x2 => kernel_rfl
      case hy4x2 => (refine Or.inl ⟨by rfl, ?_⟩; intro w hSw; (try dsimp only at hSw); go_simp; try with_reducible rfl)
      simp only [put_mk, List.set_cons_succ, List.set_cons_zero]
      refine wpAnyH_take (i := 3) (oi := ?o4x3) (v := ?v4x3) ?hi4x3 (by kernel_rfl) ?hf4x3 ?hr4x3 (fun _ _ _ h => h) ?hy4x3 (by assumption) ?rest4x3
      case hi4x3 => (simp only [List.getElem?_toArray, List.getElem?_cons_succ, List.getElem?_cons_zero]; exact rfl)
      case hf4x3 => kernel_rfl
      case hr4x3 => kernel_rfl
      case hy4x3 => (refine Or.inl ⟨by rfl, ?_⟩; intro w hSw; (try dsimp only at hSw); go_simp; try with_reducible rfl)
      simp only [put_mk, List.set_cons_succ, List.set_cons_zero]
      refine wpAnyH_take (i := 4) (oi := ?o4x4) (v := ?v4x4) ?hi4x4 (by kernel_rfl) ?hf4x4 ?hr4x4 (fun _ _ _ h => h) ?hy4x4 (by assumption) ?rest4x4
      case hi4x4 => (simp only [List.getElem?_toArray, List.getElem?_cons_succ, List.getElem?_cons_zero]; exact rfl)
      case hf4x4 => kernel_rfl
      case hr4x4 => kernel_rfl
      case hy4x4 => (refine Or.inl ⟨by rfl, ?_⟩; intro w hSw; (try dsimp only at hSw); go_simp; try with_reducible rfl)
      simp only [put_mk, List.set_cons_succ, List.set_cons_zero]
      refine wpAnyH_take (i := 5) (oi := ?o4x5) (v := ?v4x5) ?hi4x5 (by kernel_rfl) ?hf4x5 ?hr4x5 (fun _ _ _ h => h) ?hy4x5 (by assumption) ?rest4x5
      case hi4x5 => (simp only [List.getElem?_toArray, List.getElem?_cons_succ, List.getElem?_cons_zero]; exact rfl)
      case hf4x5 => kernel_rfl
      case hr4x5 => kernel_rfl
      case hy4x5 => (refine Or.inl ⟨by rfl, ?_⟩; intro w hSw; (try dsimp only at hSw); go_simp; try with_reducible rfl)
      simp only [put_mk, List.set_cons_succ, List.set_cons_zero]
      refine wpAnyH_take (i := 6) (oi := ?o4x6) (v := ?v4x6) ?hi4x6 (by kernel_rfl) ?hf4x6 ?hr4x6 (fun _ _ _ h => h) ?hy4x6 (by assumption) ?rest4x6
      case hi4x6 => (simp only [List.getElem?_toArray, List.getElem?_cons_succ, List.getElem?_cons_zero]; exact rfl)
      case hf4x6 => kernel_rfl
      case hr4x6 => kernel_rfl
      case hy4x6 => (refine Or.inl ⟨by rfl, ?_⟩; intro w hSw; (try dsimp only at hSw); go_simp; try with_reducible rfl)
      simp only [put_mk, List.set_cons_succ, List.set_cons_zero]
      refine wpAnyH_take (i := 7) (oi := ?o4x7) (v := ?v4x7) ?hi4x7 (by kernel_rfl) ?hf4x7 ?hr4x7 (fun _ _ _ h => h) ?hy4x7 (by assumption) ?rest4x7
      case hi4x7 => (simp only [List.getElem?_toArray, List.getElem?_cons_succ, List.getElem?_cons_zero]; exact rfl)
      case hf4x7 => kernel_rfl
      case hr4x7 => kernel_rfl
      case hy4x7 => (refine Or.inl ⟨by rfl, ?_⟩; intro w hSw; (try dsimp only at hSw); go_simp; try with_reducible rfl)
      simp only [put_mk, List.set_cons_succ, List.set_cons_zero]
      refine wpAnyH_take (i := 10) (oi := ?o4x10) (v := ?v4x10) ?hi4x10 (by kernel_rfl) ?hf4x10 ?hr4x10 (fun _ _ _ h => h) ?hy4x10 (by assumption) ?rest4x10
      case hi4x10 => (simp only [List.getElem?_toArray, List.getElem?_cons_succ, List.getElem?_cons_zero]; exact rfl)
      case hf4x10 => kernel_rfl
      case hr4x10 => kernel_rfl
      case hy4x10 => (refine Or.inl ⟨by rfl, ?_⟩; intro w hSw; (try dsimp only at hSw); go_simp; try with_reducible rfl)
      simp only [put_mk, List.set_cons_succ, List.set_cons_zero]
      refine wpAnyH_take (i := 11) (oi := ?o4x11) (v := ?v4x11) ?hi4x11 (by kernel_rfl) ?hf4x11 ?hr4x11 (fun _ _ _ h => h) ?hy4x11 (by assumption) ?rest4x11
      case hi4x11 => (simp only [List.getElem?_toArray, List.getElem?_cons_succ, List.getElem?_cons_zero]; exact rfl)
      case hf4x11 => kernel_rfl
      case hr4x11 => kernel_rfl
      case hy4x11 => (refine Or.inl ⟨by rfl, ?_⟩; intro w hSw; (try dsimp only at hSw); go_simp; try with_reducible rfl)
      simp only [put_mk, List.set_cons_succ, List.set_cons_zero]
      refine wpAnyH_take (i := 12) (oi := ?o4x12) (v := ?v4x12) ?hi4x12 (by kernel_rfl) ?hf4x12 ?hr4x12 (fun _ _ _ h => h) ?hy4x12 (by assumption) ?rest4x12
      case hi4x12 => (simp only [List.getElem?_toArray, List.getElem?_cons_succ, List.getElem?_cons_zero]; exact rfl)
      case hf4x12 => kernel_rfl
      case hr4x12 => kernel_rfl
      case hy4x12 => (refine Or.inl ⟨by rfl, ?_⟩; intro w hSw; (try dsimp only at hSw); go_simp; try with_reducible rfl)
      simp only [put_mk, List.set_cons_succ, List.set_cons_zero]
      refine wpAnyH_ready (rs := [8]) (by kernel_rfl) (by simp) ?_
      refine AllReadyH.cons (o := ?o4x8) ?hi4x8 (fun K hK => ?_) AllReadyH.nil
      case hi4x8 => (simp only [List.getElem?_toArray, List.getElem?_cons_succ, List.getElem?_cons_zero]; exact rfl)
      go_simp
      refine hK.out _ _ ?_ (fun hHeld => ?_)
      · (repeat (first | exact Ext.refl _ | assumption | refine Ext.setCell ?_ (by first | (simp; done) | (simp; omega)) _ | refine Ext.drewN ?_ _ | refine Ext.alloc ?_ _ | refine Ext.drew ?_ | refine Ext.trans ?_ (by assumption)))
      clear hK K
      refine wpAnyH_ready (rs := [9]) (by kernel_rfl) (by simp) ?_
      refine AllReadyH.cons (o := ?o4x9) ?hi4x9 (fun K hK => ?_) AllReadyH.nil
      case hi4x9 => (simp only [List.getElem?_toArray, List.getElem?_cons_succ, List.getElem?_cons_zero]; exact rfl)
      go_simp
      refine ((HNu _ _ (Rd.ext (Rd.new (by first | rfl | simp) (by first | rfl | simp)) (Ext.refl _).drew)).out).mono ?_
      rintro e w3 ⟨rfl, hw3⟩
      have hx3 : Ext w2 w3 := by rw [← hw3]; (repeat (first | exact Ext.refl _ | assumption | refine Ext.setCell ?_ (by first | (simp; done) | (simp; omega)) _ | refine Ext.drewN ?_ _ | refine Ext.alloc ?_ _ | refine Ext.drew ?_ | refine Ext.trans ?_ (by assumption)))
      clear hw3
      refine hK.out _ _ ?_ (fun hHeld => ?_)
      · (repeat (first | exact Ext.refl _ | assumption | refine Ext.setCell ?_ (by first | (simp; done) | (simp; omega)) _ | refine Ext.drewN ?_ _ | refine Ext.alloc ?_ _ | refine Ext.drew ?_ | refine Ext.trans ?_ (by assumption)))
      clear hK K
      refine wpAnyH_take (i := 13) (oi := ?o4x13) (v := ?v4x13) ?hi4x13 (by kernel_rfl) ?hf4x13 ?hr4x13 (fun _ _ _ h => h) ?hy4x13 (by assumption) ?rest4x13
      case hi4x13 => (simp only [List.getElem?_toArray, List.getElem?_cons_succ, List.getElem?_cons_zero]; exact rfl)
      case hf4x13 => kernel_rfl
      case hr4x13 => kernel_rfl
      case hy4x13 => (refine Or.inl ⟨by rfl, ?_⟩; intro w hSw; (try dsimp only at hSw); go_simp; try with_reducible rfl)
      simp only [put_mk, List.set_cons_succ, List.set_cons_zero]
      refine wpAnyH_take (i := 14) (oi := ?o4x14) (v := ?v4x14) ?hi4x14 (by kernel_rfl) ?hf4x14 ?hr4x14 (fun _ _ _ h => h) ?hy4x14 (by assumption) ?rest4x14
      case hi4x14 => (simp only [List.getElem?_toArray, List.getElem?_cons_succ, List.getElem?_cons_zero]; exact rfl)
      case hf4x14 => kernel_rfl
      case hr4x14 => kernel_rfl
      case hy4x14 => (refine Or.inl ⟨by rfl, ?_⟩; intro w hSw; (try dsimp only at hSw); go_simp; try with_reducible rfl)
      simp only [put_mk, List.set_cons_succ, List.set_cons_zero]
      refine wpAnyH_take (i := 15) (oi := ?o4x15) (v := ?v4x15) ?hi4x15 (by kernel_rfl) ?hf4x15 ?hr4x15 (fun _ _ _ h => h) ?hy4x15 (by assumption) ?rest4x15
      case hi4x15 => (simp only [List.getElem?_toArray, List.getElem?_cons_succ, List.getElem?_cons_zero]; exact rfl)
      case hf4x15 => kernel_rfl
      case hr4x15 => kernel_rfl
      case hy4x15 => (refine Or.inl ⟨by rfl, ?_⟩; intro w hSw; (try dsimp only at hSw); go_simp; try with_reducible rfl)
      simp only [put_mk, List.set_cons_succ, List.set_cons_zero]
      refine wpAnyH_take (i := 16) (oi := ?o4x16) (v := ?v4x16) ?hi4x16 (by kernel_rfl) ?hf4x16 ?hr4x16 (fun _ _ _ h => h) ?hy4x16 (by assumption) ?rest4x16
      case hi4x16 => (simp only [List.getElem?_toArray, List.getElem?_cons_succ, List.getElem?_cons_zero]; exact rfl)
      case hf4x16 => kernel_rfl
      case hr4x16 => kernel_rfl
      case hy4x16 => (refine Or.inl ⟨by rfl, ?_⟩; intro w hSw; (try dsimp only at hSw); go_simp; try with_reducible rfl)
      simp only [put_mk, List.set_cons_succ, List.set_cons_zero]
      refine wpAnyH_take (i := 17) (oi := ?o4x17) (v := ?v4x17) ?hi4x17 (by kernel_rfl) ?hf4x17 ?hr4x17 (fun _ _ _ h => h) ?hy4x17 (by assumption) ?rest4x17
      case hi4x17 => (simp only [List.getElem?_toArray, List.getElem?_cons_succ, List.getElem?_cons_zero]; exact rfl)
      case hf4x17 => kernel_rfl
      case hr4x17 => kernel_rfl
      case hy4x17 => (refine Or.inl ⟨by rfl, ?_⟩; intro w hSw; (try dsimp only at hSw); go_simp; try with_reducible rfl)
      simp only [put_mk, List.set_cons_succ, List.set_cons_zero]
      refine wpAnyH_take (i := 18) (oi := ?o4x18) (v := ?v4x18) ?hi4x18 (by kernel_rfl) ?hf4x18 ?hr4x18 (fun _ _ _ h => h) ?hy4x18 (by assumption) ?rest4x18
      case hi4x18 => (simp only [List.getElem?_toArray, List.getElem?_cons_succ, List.getElem?_cons_zero]; exact rfl)
      case hf4x18 => kernel_rfl
      case hr4x18 => kernel_rfl
      case hy4x18 => (refine Or.inl ⟨by rfl, ?_⟩; intro w hSw; (try dsimp only at hSw); go_simp; try with_reducible rfl)
      simp only [put_mk, List.set_cons_succ, List.set_cons_zero]
      refine wpAnyH_take (i := 19) (oi := ?o4x19) (v := ?v4x19) ?hi4x19 (by kernel_rfl) ?hf4x19 ?hr4x19 (fun _ _ _ h => h) ?hy4x19 (by assumption) ?rest4x19
      case hi4x19 => (simp only [List.getElem?_toArray, List.getElem?_cons_succ, List.getElem?_cons_zero]; exact rfl)
      case hf4x19 => kernel_rfl
      case hr4x19 => kernel_rfl
      case hy4x19 => (refine Or.inl ⟨by rfl, ?_⟩; intro w hSw; (try dsimp only at hSw); go_simp; try with_reducible rfl)
      simp only [put_mk, List.set_cons_succ, List.set_cons_zero]
      refine wpAnyH_take (i := 20) (oi := ?o4x20) (v := ?v4x20) ?hi4x20 (by kernel_rfl) ?hf4x20 ?hr4x20 (fun _ _ _ h => h) ?hy4x20 (by assumption) ?rest4x20
      case hi4x20 => (simp only [List.getElem?_toArray, List.getElem?_cons_succ, List.getElem?_cons_zero]; exact rfl)
      case hf4x20 => kernel_rfl
      case hr4x20 => kernel_rfl
      case hy4x20 => (refine Or.inl ⟨by rfl, ?_⟩; intro w hSw; (try dsimp only at hSw); go_simp; try with_reducible rfl)
      simp only [put_mk, List.set_cons_succ, List.set_cons_zero]
      refine wpAnyH_take (i := 21) (oi := ?o4x21) (v := ?v4x21) ?hi4x21 (by kernel_rfl) ?hf4x21 ?hr4x21 (fun _ _ _ h => h) ?hy4x21 (by assumption) ?rest4x21
      case hi4x21 => (simp only [List.getElem?_toArray, List.getElem?_cons_succ, List.getElem?_cons_zero]; exact rfl)
      case hf4x21 => kernel_rfl
      case hr4x21 => kernel_rfl
      case hy4x21 => (refine Or.inl ⟨by rfl, ?_⟩; intro w hSw; (try dsimp only at hSw); go_simp; try with_reducible rfl)
      simp only [put_mk, List.set_cons_succ, List.set_cons_zero]
      refine wpAnyH_take (i := 22) (oi := ?o4x22) (v := ?v4x22) ?hi4x22 (by kernel_rfl) ?hf4x22 ?hr4x22 (fun _ _ _ h => h) ?hy4x22 (by assumption) ?rest4x22
      case hi4x22 => (simp only [List.getElem?_toArray, List.getElem?_cons_succ, List.getElem?_cons_zero]; exact rfl)
      case hf4x22 => kernel_rfl
      case hr4x22 => kernel_rfl
      case hy4x22 => (refine Or.inl ⟨by rfl, ?_⟩; intro w hSw; (try dsimp only at hSw); go_simp; try with_reducible rfl)
      simp only [put_mk, List.set_cons_succ, List.set_cons_zero]
      refine wpAnyH_ready (rs := [23]) (by kernel_rfl) (by simp) ?_
      refine AllReadyH.cons (o := ?o4x23) ?hi4x23 (fun K hK => ?_) AllReadyH.nil
      case hi4x23 => (simp only [List.getElem?_toArray, List.getElem?_cons_succ, List.getElem?_cons_zero]; exact rfl)
      go_simp
      refine ((HWh _ _ _).out).mono ?_
      rintro e w4 ⟨rfl, rfl⟩
      refine hK.out _ _ ?_ (fun hHeld => ?_)
      · (repeat (first | exact Ext.refl _ | assumption | refine Ext.setCell ?_ (by first | (simp; done) | (simp; omega)) _ | refine Ext.drewN ?_ _ | refine Ext.alloc ?_ _ | refine Ext.drew ?_ | refine Ext.trans ?_ (by assumption)))
      clear hK K
      refine wpAnyH_ready (rs := [24]) (by kernel_rfl) (by simp) ?_
      refine AllReadyH.cons (o := ?o4x24) ?hi4x24 (fun K hK => ?_) AllReadyH.nil
      case hi4x24 => (simp only [List.getElem?_toArray, List.getElem?_cons_succ, List.getElem?_cons_zero]; exact rfl)
      go_simp
      refine hK.out _ _ ?_ (fun hHeld => ?_)
      · (repeat (first | exact Ext.refl _ | assumption | refine Ext.setCell ?_ (by first | (simp; done) | (simp; omega)) _ | refine Ext.drewN ?_ _ | refine Ext.alloc ?_ _ | refine Ext.drew ?_ | refine Ext.trans ?_ (by assumption)))
      clear hK K
      refine wpAnyH_ready (rs := [25]) (by kernel_rfl) (by simp) ?_
      refine AllReadyH.cons (o := ?o4x25) ?hi4x25 (fun K hK => ?_) AllReadyH.nil
      case hi4x25 => (simp only [List.getElem?_toArray, List.getElem?_cons_succ, List.getElem?_cons_zero]; exact rfl)
      go_simp
      refine ((HS _ _ _ _ (Rd.new (by first | rfl | simp) (by first | rfl | simp))).out).mono ?_
      rintro e w5 ⟨rfl, hw5⟩
      have hx5 : Ext w2 w5 := by rw [← hw5]; (repeat (first | exact Ext.refl _ | assumption | refine Ext.setCell ?_ (by first | (simp; done) | (simp; omega)) _ | refine Ext.drewN ?_ _ | refine Ext.alloc ?_ _ | refine Ext.drew ?_ | refine Ext.trans ?_ (by assumption)))
      clear hw5
      refine hK.out _ _ ?_ (fun hHeld => ?_)
      · (repeat (first | exact Ext.refl _ | assumption | refine Ext.setCell ?_ (by first | (simp; done) | (simp; omega)) _ | refine Ext.drewN ?_ _ | refine Ext.alloc ?_ _ | refine Ext.drew ?_ | refine Ext.trans ?_ (by assumption)))
      clear hK K
      refine wpAnyH_take (i := 26) (oi := ?o4x26) (v := ?v4x26) ?hi4x26 (by kernel_rfl) ?hf4x26 ?hr4x26 (fun _ _ _ h => h) ?hy4x26 (by assumption) ?rest4x26
      case hi4x26 => (simp only [List.getElem?_toArray, List.getElem?_cons_succ, List.getElem?_cons_zero]; exact rfl)
      case hf4x26 => kernel_rfl
      case hr4x26 => kernel_rfl
      case hy4x26 => (refine Or.inl ⟨by rfl, ?_⟩; intro w hSw; (try dsimp only at hSw); go_simp; try with_reducible rfl)
      simp only [put_mk, List.set_cons_succ, List.set_cons_zero]
      refine wpAnyH_done (by kernel_rfl) ?_ _
      refine NoPanic.normal ?_
      go_wp2_with fail
      go_meet
      case rel => exact ⟨by rw [← hv.out], (by repeat (first | exact Ext.refl _ | assumption | refine Ext.setCell ?_ (by first | (simp; done) | (simp; omega)) _ | refine Ext.drewN ?_ _ | refine Ext.alloc ?_ _ | refine Ext.drew ?_ | refine Ext.trans ?_ (by assumption)))⟩
  case rest =>
    obtain ⟨rfl, hxc⟩ := hcut
    subst hown0
    clear s0 s1 s2 s3 Hown hb1 hb2 hb3 HNu
    have p0 := (kF.ext hxc).cell 0
    have p1 := (kF.ext hxc).cell 1
    have p2 := (kF.ext hxc).cell 2
    have p3 := (kF.ext hxc).cell 3
    have p4 := (kF.ext hxc).cell 4
    go_wp2_with fail
    refine ((HE _ (hV.ext (hx2.trans hxc))).out).mono ?_
    rintro e w6 ⟨rfl, hx6⟩
    have hy6 := hxc.trans hx6
    clear p0 p1 p2 p3 p4
    go_wp2_with fail
    refine ((HS _ _ _ _ (Rd.new (by first | rfl | simp) (by first | rfl | simp))).out).mono ?_
    rintro e w7 ⟨rfl, hw7⟩
    have hy7 : Ext w2 w7 := hy6.trans (by rw [← hw7]; (repeat (first | exact Ext.refl _ | assumption | refine Ext.setCell ?_ (by first | (simp; done) | (simp; omega)) _ | refine Ext.drewN ?_ _ | refine Ext.alloc ?_ _ | refine Ext.drew ?_ | refine Ext.trans ?_ (by assumption))))
    clear hw7
    rw [HFZ.out]
    go_wp2_with fail
    refine ((HW _).out).mono ?_
    rintro e w8 ⟨rfl, hx8⟩
    have hy8 := hy7.trans hx8
    have q0 := (kS.ext hy8).cell 0
    have q1 := (kS.ext hy8).cell 1
    have q2 := (kS.ext hy8).cell 2
    have q3 := (kS.ext hy8).cell 3
    go_wp2_with fail
    refine ((HC _).out).mono ?_
    rintro e w9 ⟨rfl, hx9⟩
    have hy9 := hy8.trans hx9
    clear q0 q1 q2 q3 HC HW HE
    have p0 := (kF.ext hy9).cell 0
    have p1 := (kF.ext hy9).cell 1
    have p2 := (kF.ext hy9).cell 2
    have p3 := (kF.ext hy9).cell 3
    have p4 := (kF.ext hy9).cell 4
    obtain ⟨i0, hi0, hz0, hz1, hz2⟩ := info_parts infoFl
    go_wp2_with fail
    clear p0 p1 p2 p3 p4
    go_loopw [11, 91] (fun v i wr => ∃ (k : Nat) (C : Option Addr) (z : Nat), k ≤ N ∧ i = .int .i64 k ∧ v = .slice C k z ∧ wr.ownsRow w9.heap.size 27 1 (.slice C k z) k (flt ((List.range k).map fun j => vv.getD j 0)) ∧ Ext w9 wr) (fun _ i _ => N - (intOf i).toNat)
    case atStart => exact ⟨0, none, 0, by omega, rfl, rfl, by simpa [flt] using World.ownsRow_nil _ _ _ _, Ext.refl _⟩
    case round =>
      obtain ⟨k, C, zc, hk, rfl, rfl, hown, hxr⟩ := hrel
      by_cases hkN : k < N
      · have hyr := hy9.trans hxr
        have p0 := (kF.ext hyr).cell 0
        have p1 := (kF.ext hyr).cell 1
        have p2 := (kF.ext hyr).cell 2
        have p3 := (kF.ext hyr).cell 3
        have p4 := (kF.ext hyr).cell 4
        have q0 := (kS.ext hyr).cell 0
        have q1 := (kS.ext hyr).cell 1
        have q2 := (kS.ext hyr).cell 2
        have q3 := (kS.ext hyr).cell 3
        have HOk := HO k _ (hV.ext (hx2.trans hyr)) hkN
        have hvk := HVK.out k hkN
        rw [← hvk] at HOk
        clear hvk
        have Hsu := hidA (show (List.range (k + 1)).map (fun j => vv.getD j 0) = ((List.range k).map fun j => vv.getD j 0) ++ [vv.getD k 0] from by rw [List.range_succ, List.map_append]; rfl)
        generalize vv.getD k 0 = y at *
        have u1 : k + 1 ≤ maxLen := by unfold maxLen; omega
        have u2 : (k + 1) * 4 ≤ 140737488355328 := by omega
        have hlr := hxr.size
        clear HRes HMok HMbad
        go_wp2_with (first | (go_at_call 42; refine (HOk.out).mono ?_; rintro e w10 ⟨rfl, hx10⟩; have hlr2 := hx10.size) | (at_builtin; (refine wpList_append_lies _ (by rfl) (.tmp 94) (.tmp 99) 24 (by rfl) w9.heap.size 27 i0 _ 1 4 Try.underlying24 hi0 hz0 hz1 hz2 rfl (by decide) (.slice C k zc) k (flt ((List.range k).map fun j => vv.getD j 0)) (by rfl) (own_ext hown (hx10.trans (by repeat (first | exact Ext.refl _ | assumption | refine Ext.setCell ?_ (by first | (simp; done) | (simp; omega)) _ | refine Ext.drewN ?_ _ | refine Ext.alloc ?_ _ | refine Ext.drew ?_ | refine Ext.trans ?_ (by assumption))))) ⟨w10.heap.size, 0, none⟩ 1 1 [.float .f32 y] (by rfl) (by rfl) (World.news_of_block (cs := #[.float .f32 y]) (t := 27) (fr := (0, 0)) (Bk.new' rfl)) (by simp [Value.oneCell']) (by decide) u1 u2 (by simp; omega) (w10.heap.size + 1) (by simp) ?_; intro gg cap w11 hown11 hgrow11 hat11 hlt11)))
        have hx11 : Ext w9 w11 := (show Ext w9 _ from (hxr.trans hx10).alloc _).own (own_ext hown (hx10.trans (by repeat (first | exact Ext.refl _ | assumption | refine Ext.setCell ?_ (by first | (simp; done) | (simp; omega)) _ | refine Ext.drewN ?_ _ | refine Ext.alloc ?_ _ | refine Ext.drew ?_ | refine Ext.trans ?_ (by assumption))))) (Nat.le_refl _) hgrow11
        go_roundw
        case rel => exact ⟨k + 1, some ⟨gg, 0, none⟩, cap, by omega, by go_num, rfl, by rw [Hsu.out]; simpa [flt] using hown11, hx11⟩
        case measure => simp [intOf]; omega
      · have hkN' : k = N := by omega
        subst hkN'
        have hyr := hy9.trans hxr
        have p0 := (kF.ext hyr).cell 0
        have p1 := (kF.ext hyr).cell 1
        have p2 := (kF.ext hyr).cell 2
        have p3 := (kF.ext hyr).cell 3
        have p4 := (kF.ext hyr).cell 4
        have t0 := (kG.ext hyr).cell 0
        have t1 := (kG.ext hyr).cell 1
        have t2 := (kG.ext hyr).cell 2
        have t3 := (kG.ext hyr).cell 3
        have t4 := (kG.ext hyr).cell 4
        have hvv : ((List.range k).map fun j => vv.getD j 0) = vv := by
          apply List.ext_getElem
          · rw [List.length_map, List.length_range, HVL.out]
          · intro i h1 h2
            simp [List.getD_eq_getElem?_getD, h2]
        rw [hvv] at hown
        have hRd := Rd.of_own hown
        have hWx := hW2.ext hyr
        clear hown hvv HO hi0 hz0 hz1 hz2
        go_upto_region 14 with (go_at_call 39; refine ((HRes _ _ _ _ _ _ _ _ _ _ _ hWx hRd).out).mono ?_; rintro e w8 ⟨rfl, hx8⟩)
        have hys := hyr.trans hx8
        have hRd8 := hRd.ext hx8
        have hW8 := hWx.ext hx8
        clear p0 p1 p2 p3 p4 t0 t1 t2 t3 t4 HRes hWx hRd hx8 hW2
        rcases hW8 with ⟨hal, hra, hrb, rfl, rfl, rfl, rfl, hvR⟩ | ⟨_, rfl, rfl, rfl, rfl, rfl, rfl, rfl, rfl⟩
        rotate_left
        · clear HMok HMbad
          go_wp2_with fail
          go_ret
          exact ⟨by first | rfl | simp, hx2.trans hys⟩
        · obtain rfl : X = ra := hra.symm
          obtain rfl : Y = rb := hrb.symm
          obtain ⟨_, hvb⟩ := HVB.out hal
          have HVb := hidA hvb
          clear hvb HVB
          by_cases hE : meltE wm = 0
          · obtain ⟨hwb, hw0⟩ := Hwm.out hE
            have hnb : nw = 0 ∧ Bw = false := by
              have h := HME.out
              rw [hE] at h
              cases Bw
              · refine ⟨?_, rfl⟩
                by_cases h2 : nw = 0
                · exact h2
                · simp [firstE, h2] at h
                  exact absurd h.symm h2
              · by_cases h2 : nw = 0
                · subst h2
                  cases h
                · simp [firstE, h2] at h
                  exact absurd h.symm h2
            obtain ⟨rfl, rfl⟩ := hnb
            have HM := fun (w : World) (h1 : Rd w A (flt l)) (h2 : Rd w vA (flt vv)) => HMok hal vA vc w h1 h2 hE
            have HX := fun (j : Nat) (hj : j < vn) => hidA (on_ok (HHH.out j hj))
            have HRs := fun (j : Nat) (hj : j < vn) => hidA (rest_ok (HVb.out j hj) hwb (HHH.out j hj) hw0)
            have HLo := fun (j : Nat) (hj : j < vn) => hidA (left_ok (HVb.out j hj) hwb (HHH.out j hj) hw0 (HV0.out j hj))
            have HGo := fun (j : Nat) (hj : j < vn) => hidA (gone_ok (HVb.out j hj) (left_ok (HVb.out j hj) hwb (HHH.out j hj) hw0 (HV0.out j hj)).2.2.1 (left_ok (HVb.out j hj) hwb (HHH.out j hj) hw0 (HV0.out j hj)).2.2.2)
            have HMe := fun (j : Nat) (hj : j < vn) => hidA (melt_one (HVb.out j hj) hwb (HHH.out j hj) hw0 (HV0.out j hj)).2
            clear HMok HMbad HME hE Hwm HVb HV0 hwb hw0 hal HVK
            have p0 := (kF.ext hys).cell 0
            have p1 := (kF.ext hys).cell 1
            have p2 := (kF.ext hys).cell 2
            have p3 := (kF.ext hys).cell 3
            have p4 := (kF.ext hys).cell 4
            have t0 := (kG.ext hys).cell 0
            have t1 := (kG.ext hys).cell 1
            have t2 := (kG.ext hys).cell 2
            have t3 := (kG.ext hys).cell 3
            have t4 := (kG.ext hys).cell 4
            go_upto_region 17 with (go_at_call 43; refine ((HM _ (hV.ext (hx2.trans hys)) hvR).out).mono ?_; rintro e w12 ⟨g, cap, gi, rfl, hmR, hmI, hx12⟩)
            have kM : Bk (w12.alloc (.cells #[.int .i64 X, .int .i64 Y, .int .i64 (Wn : Int), .int .i64 (Hn : Int), .slice (some ⟨g, 0, none⟩) vn cap] 26)) w12.heap.size 26 #[.int .i64 X, .int .i64 Y, .int .i64 (Wn : Int), .int .i64 (Hn : Int), .slice (some ⟨g, 0, none⟩) vn cap] := Bk.new' rfl
            have hxm : Ext w12 (w12.alloc (.cells #[.int .i64 X, .int .i64 Y, .int .i64 (Wn : Int), .int .i64 (Hn : Int), .slice (some ⟨g, 0, none⟩) vn cap] 26)) := (Ext.refl w12).alloc _
            have hRm := hmR.ext hxm
            have hIm := hmI.ext hxm
            have hyt := (hys.trans hx12).trans hxm
            have hRd9 := hRd8.ext (hx12.trans hxm)
            clear p0 p1 p2 p3 p4 t0 t1 t2 t3 t4 hmR hmI hx12 HM kG hRd8 hvR hxm
            generalize w12.alloc (.cells #[.int .i64 X, .int .i64 Y, .int .i64 (Wn : Int), .int .i64 (Hn : Int), .slice (some ⟨g, 0, none⟩) vn cap] 26) = w13 at *
            generalize w12.heap.size = hm at *
            go_upto_region 18 with (first | (go_at_call 18; refine ((HNw _ _ (Rd.new (by first | rfl | simp) (by first | rfl | simp))).out).mono ?_; rintro e w14 ⟨rfl, hw14⟩; have hx14 : Ext w13 w14 := by (rw [← hw14]; (repeat (first | exact Ext.refl _ | assumption | refine Ext.setCell ?_ (by first | (simp; done) | (simp; omega)) _ | refine Ext.drewN ?_ _ | refine Ext.alloc ?_ _ | refine Ext.drew ?_ | refine Ext.trans ?_ (by assumption))))) | (go_at_call 19; refine ((HWh _ _ _).out).mono ?_; rintro e w15 ⟨rfl, rfl⟩) | (go_at_call 16; refine ((HS _ _ _ _ (Rd.new (by first | rfl | simp) (by first | rfl | simp))).out).mono ?_; rintro e w16 ⟨rfl, hw16⟩; have hx16 : Ext w13 w16 := by (rw [← hw16]; (repeat (first | exact Ext.refl _ | assumption | refine Ext.setCell ?_ (by first | (simp; done) | (simp; omega)) _ | refine Ext.drewN ?_ _ | refine Ext.alloc ?_ _ | refine Ext.drew ?_ | refine Ext.trans ?_ (by assumption))))))
            have hfz : firstE [(0 : Int), 0] = 0 := rfl
            rw [hfz]
            clear hw14 hw16 hx14 hfz HNw HWh HS
            have kM6 := kM.ext hx16
            have hR6 := hRm.ext hx16
            have hI6 := hIm.ext hx16
            have hRd6 := hRd9.ext hx16
            have hy6' := hyt.trans hx16
            obtain ⟨ie, he1, he2, he3, he4⟩ := info_parts infoInt
            obtain ⟨i0, hi0, hz0, hz1, hz2⟩ := info_parts infoFl
            clear kM hRm hIm hRd9 hyt hx16
            obtain ⟨w17, hw17⟩ : ∃ w17, w17 = w16 := ⟨_, rfl⟩
            rw [← hw17] at kM6 hR6 hI6 hRd6 hy6' ⊢
            clear hw17
            go_wp2_with fail
            go_loopw [17, 18, 143] (fun v u i wr => ∃ (j : Nat) (C D : Option Addr) (z y : Nat), j ≤ vn ∧ i = .int .i64 j ∧ v = .slice C j z ∧ u = .slice D j y ∧ wr.ownsRow w17.heap.size 27 1 (.slice C j z) j (flt ((List.range j).map fun j => leftR (vv.getD j 0) wm (l.getD j 0))) ∧ wr.ownsRow w17.heap.size 3 1 (.slice D j y) j (intL ((List.range j).map fun j => meltN (vv.getD j 0) wm (l.getD j 0))) ∧ Ext w17 wr) (fun _ _ i _ => vn - (intOf i).toNat)
            case atStart => exact ⟨0, none, none, 0, 0, by omega, rfl, rfl, rfl, by simpa [flt] using World.ownsRow_nil _ _ _ _, by simpa [intL] using World.ownsRow_nil _ _ _ _, Ext.refl _⟩
            case round =>
              obtain ⟨j, C2, D2, z2, y2, hj, rfl, rfl, rfl, hoF, hoI, hxr2⟩ := hrel
              by_cases hjk : j < vn
              · have hkl : j < l.length := by rw [HL.out]; exact hjk
                have hks : j < vv.length := by rw [HVL.out]; exact hjk
                have hRj := hRd6.ext hxr2
                obtain ⟨bd, rfl, hbk, hcvA⟩ := hRj.at (k := j) (by rw [flt_length]; exact hks)
                have hVj := hV.ext (hx2.trans (hy6'.trans hxr2))
                obtain ⟨ad, rfl, hbk2, hcvB⟩ := hVj.at (k := j) (by rw [flt_length]; exact hkl)
                clear hcvA hcvB
                have cs : wr.cell? (bd.add j) = some (.float .f32 (vv.getD j 0)) := by
                  refine hRj.get ?_
                  simp [flt, hks, List.getD_eq_getElem?_getD]
                have clx : wr.cell? (ad.add j) = some (.float .f32 (l.getD j 0)) := by
                  refine hVj.get ?_
                  simp [flt, hkl, List.getD_eq_getElem?_getD]
                have Hst := hidA (show leftR (vv.getD j 0) wm (l.getD j 0) = if gt (restF (vv.getD j 0) wm (l.getD j 0)) 0 = true then restF (vv.getD j 0) wm (l.getD j 0) else 0 from rfl)
                obtain ⟨_, x1, _, _⟩ := (HX j hjk).out
                obtain ⟨r1, r2, _, _⟩ := (HRs j hjk).out
                obtain ⟨g1, g2, _⟩ := (HGo j hjk).out
                obtain ⟨ma, mb, hmm⟩ := (HMe j hjk).out
                have HFl := fun (w : World) => hidA (mathFloor_any ma mb hmm.num hmm.fl w)
                have hup := hmm.up
                have hi2 := hmm.i2
                have c2 := fun (w : World) => run_convert_float_float (P := Try.prog) w 27 72 .f32 .f64 _ _ (by kernel_rfl) Try.underlying72 hup
                have c3 := fun (w : World) => run_convert_float_int (P := Try.prog) w 72 3 .f64 .i64 _ _ (by kernel_rfl) Try.underlying3 hi2
                have hlt : (FloatKind.f32.format.order (l.getD j 0) 0 == some .lt) = lt (l.getD j 0) 0 := rfl
                have hgt : (FloatKind.f32.format.order (restF (vv.getD j 0) wm (l.getD j 0)) 0 == some .gt) = gt (restF (vv.getD j 0) wm (l.getD j 0)) 0 := rfl
                have hab : upF (l.getD j 0) = if lt (l.getD j 0) 0 = true then 0 else l.getD j 0 := rfl
                have Hsu := hidA (show (List.range (j + 1)).map (fun j => leftR (vv.getD j 0) wm (l.getD j 0)) = ((List.range j).map fun j => leftR (vv.getD j 0) wm (l.getD j 0)) ++ [leftR (vv.getD j 0) wm (l.getD j 0)] from by rw [List.range_succ, List.map_append]; rfl)
                have Hsi := hidA (show (List.range (j + 1)).map (fun j => meltN (vv.getD j 0) wm (l.getD j 0)) = ((List.range j).map fun j => meltN (vv.getD j 0) wm (l.getD j 0)) ++ [meltN (vv.getD j 0) wm (l.getD j 0)] from by rw [List.range_succ, List.map_append]; rfl)
                clear HX HRs HLo HGo HMe hmm hi2 hup hRj hVj
                have u1 : j + 1 ≤ maxLen := by unfold maxLen; omega
                have u2 : (j + 1) * 4 ≤ 140737488355328 := by omega
                have u3 : (j + 1) * 8 ≤ 140737488355328 := by omega
                have hlr := hxr2.size
                generalize (List.range j).map (fun j => leftR (vv.getD j 0) wm (l.getD j 0)) = LF at *
                generalize (List.range j).map (fun j => meltN (vv.getD j 0) wm (l.getD j 0)) = LI at *
                generalize meltN (vv.getD j 0) wm (l.getD j 0) = mn at *
                generalize leftR (vv.getD j 0) wm (l.getD j 0) = lp at *
                generalize restF (vv.getD j 0) wm (l.getD j 0) = rs at *
                generalize onF (upF (l.getD j 0)) = on at *
                generalize goneF (vv.getD j 0) lp = gn at *
                generalize fsub (vv.getD j 0) lp = gs at *
                generalize fdiv wm on = tw at *
                have q2 := fun (w : World) => run_float_arith (P := Try.prog) w .quo 27 .f32 _ _ _ r1
                have q3 := fun (w : World) => run_float_arith (P := Try.prog) w .sub 27 .f32 _ _ _ r2
                have q4 := fun (w : World) => run_float_arith (P := Try.prog) w .sub 27 .f32 _ _ _ g1
                have q5 := fun (w : World) => run_float_arith (P := Try.prog) w .mul 27 .f32 _ _ _ g2
                clear r1 r2 g1 g2
                have i0' : (0 : Int) ≤ j := by omega
                have i1 : (j : Int) < vn := by omega
                have c4 := (kF.ext (hy6'.trans hxr2)).cell 4
                generalize vv.getD j 0 = sv at *
                generalize l.getD j 0 = x at *
                have hne1 := own_neM hoF hoI (by decide)
                have HoF := hidA hoF
                have HoI := hidA hoI
                clear hoF hoI
                cases hb1 : lt x 0
                all_goals
                  rw [hb1] at hlt hab
                  simp only [if_true, if_false, Bool.false_eq_true] at hab
                  rw [hab] at x1
                  have q1 := fun (w : World) => run_float_arith (P := Try.prog) w .add 27 .f32 _ _ _ x1
                  clear hb1 hab x1
                  cases hb2 : gt rs 0
                  all_goals
                    have Hst2 := hidA Hst.out
                    rw [hb2] at hgt Hst2
                    simp only [if_true, if_false, Bool.false_eq_true] at Hst2
                    have e9 := Hst2.out
                    clear hb2 Hst Hst2
                    subst e9
                    go_upto_region 32 with (at_builtin; (refine wpList_append_lies _ (by rfl) (.tmp 164) (.tmp 166) 24 (by rfl) w17.heap.size 27 i0 _ 1 4 Try.underlying24 hi0 hz0 hz1 hz2 rfl (by decide) (.slice C2 j z2) j (flt LF) (by rfl) (own_ext HoF.out (by repeat (first | exact Ext.refl _ | assumption | refine Ext.setCell ?_ (by first | (simp; done) | (simp; omega)) _ | refine Ext.drewN ?_ _ | refine Ext.alloc ?_ _ | refine Ext.drew ?_ | refine Ext.trans ?_ (by assumption)))) ⟨wr.heap.size, 0, none⟩ 1 1 [.float .f32 _] (by rfl) (by rfl) (World.news_of_block (cs := #[.float .f32 _]) (t := 27) (fr := (0, 0)) (Bk.new' rfl)) (by simp [Value.oneCell']) (by decide) u1 u2 (by simp; omega) (wr.heap.size + 1) (by simp) ?_; intro ga capa w21 hown21 hgrow21 hat21 hlt21; have hB21 := hidA (World.ownsRow.kept (own_ext HoI.out (show Ext wr _ from (Ext.refl wr).alloc _)) hgrow21 hne1); have hx21 := hidA ((show Ext w17 _ from hxr2.alloc _).own (own_ext HoF.out (show Ext wr _ from (Ext.refl wr).alloc _)) (Nat.le_refl _) hgrow21); have hA21 := hidA hown21; have hs21 := hx21.out.size; clear hown21 hgrow21 hat21 hlt21))
                    go_wp2_with (first | (go_at_call 44; refine ((HFl _).out).mono ?_; rintro e w6 ⟨rfl, hw6⟩; obtain rfl : w21 = w6 := hw6.symm) | (at_builtin; (refine wpList_append_lies _ (by rfl) (.tmp 168) (.tmp 176) 41 (by rfl) w17.heap.size 3 ie _ 1 8 Try.underlying41 he1 he2 he3 he4 rfl (by decide) (.slice D2 j y2) j (intL LI) (by rfl) (own_ext hB21.out (by repeat (first | exact Ext.refl _ | assumption | refine Ext.setCell ?_ (by first | (simp; done) | (simp; omega)) _ | refine Ext.drewN ?_ _ | refine Ext.alloc ?_ _ | refine Ext.drew ?_ | refine Ext.trans ?_ (by assumption)))) ⟨w21.heap.size, 0, none⟩ 1 1 [.int .i64 mn] (by rfl) (by rfl) (World.news_of_block (cs := #[.int .i64 mn]) (t := 3) (fr := (0, 0)) (Bk.new' rfl)) (by simp [Value.oneCell']) (by decide) u1 u3 (by simp; omega) (w21.heap.size + 1) (by simp) ?_; intro gb capb w22 hown22 hgrow22 hat22 hlt22)))
                    have hx22 : Ext w17 w22 := (show Ext w17 _ from hx21.out.alloc _).own (own_ext hB21.out (show Ext w21 _ from (Ext.refl w21).alloc _)) (Nat.le_refl _) hgrow22
                    have hA22 := World.ownsRow.kept (own_ext hA21.out (show Ext w21 (w21.alloc (.cells #[.int .i64 mn] 3)) from (Ext.refl w21).alloc _)) hgrow22 (own_neM hB21.out hA21.out (by decide))
                    go_roundw
                    case rel => exact ⟨j + 1, some ⟨ga, 0, none⟩, some ⟨gb, 0, none⟩, capa, capb, by omega, by go_num, rfl, rfl, by rw [Hsu.out]; simpa [flt] using hA22, by rw [Hsi.out]; simpa [intL] using hown22, hx22⟩
                    case measure => simp [intOf]; omega
              · obtain rfl : vn = j := by omega
                have m4 := (kM6.ext hxr2).cell 4
                have hRF := Rd.of_own hoF
                have hRI := Rd.of_own hoI
                have hIr := Rd.of_blockM (hI6.ext hxr2)
                rw [intB_list] at hIr
                have HEF := fun (w : World) (ha : Rd w (some ⟨g, 0, none⟩) (flt ((List.range vn).map fun k => leftP (vv.getD k 0) wm (l.getD k 0)))) (hb : Rd w C2 (flt ((List.range vn).map fun j => leftR (vv.getD j 0) wm (l.getD j 0)))) => hidA (eqFlo_same (some ⟨g, 0, none⟩) C2 vn cap z2 _ _ w (by simp) (by simp) ha hb (by omega) (fun k h1 h2 => by
                  have hk : k < vn := by simpa using h1
                  obtain ⟨e1, e2, e3, _⟩ := (HLo k hk).out
                  simp only [List.getElem_map, List.getElem_range]
                  have := (eq_val (bd_Fin e2 (by omega)) (bd_Fin e3 (by omega))).2 e1
                  rw [ord_def, this]
                  rfl))
                have HEI := fun (w : World) (ha : Rd w (some ⟨gi, 0, none⟩) (intL ((List.range vn).map fun k => meltN (vv.getD k 0) wm (l.getD k 0)))) (hb : Rd w D2 (intL ((List.range vn).map fun j => meltN (vv.getD j 0) wm (l.getD j 0)))) => hidA (eqInts_same (some ⟨gi, 0, none⟩) D2 vn vn y2 _ w (by simp) ha hb (by omega))
                have hRP := hR6.ext hxr2
                clear HX HRs HLo HGo HMe hoF hoI HHH HVL HL
                generalize (List.range vn).map (fun j => leftR (vv.getD j 0) wm (l.getD j 0)) = LF at *
                generalize (List.range vn).map (fun k => leftP (vv.getD k 0) wm (l.getD k 0)) = LP at *
                generalize (List.range vn).map (fun j => meltN (vv.getD j 0) wm (l.getD j 0)) = LI at *
                go_wp2_with fail
                refine ((HEF _ hRP hRF).out).mono ?_
                rintro e w23 ⟨rfl, hx23⟩
                go_wp2_with fail
                refine ((HEI _ (hIr.ext (by repeat (first | exact Ext.refl _ | assumption | refine Ext.setCell ?_ (by first | (simp; done) | (simp; omega)) _ | refine Ext.drewN ?_ _ | refine Ext.alloc ?_ _ | refine Ext.drew ?_ | refine Ext.trans ?_ (by assumption)))) (hRI.ext (by repeat (first | exact Ext.refl _ | assumption | refine Ext.setCell ?_ (by first | (simp; done) | (simp; omega)) _ | refine Ext.drewN ?_ _ | refine Ext.alloc ?_ _ | refine Ext.drew ?_ | refine Ext.trans ?_ (by assumption))))).out).mono ?_
                rintro e w24 ⟨rfl, hx24⟩
                go_wp2_with fail
                go_ret
                exact ⟨by first | rfl | simp, hx2.trans (hy6'.trans (hxr2.trans (hx23.trans hx24)))⟩
          · have HM := fun (w : World) (h1 : Rd w A (flt l)) (h2 : Rd w vA (flt vv)) => HMbad hal vA vc w h1 h2 hE
            have hE' : (meltE wm != 0) = true := by simpa using hE
            generalize meltE wm = E at *
            clear HMok HMbad hE Hwm HVb HV0 hal HVK HVL HL HHH
            have p0 := (kF.ext hys).cell 0
            have p1 := (kF.ext hys).cell 1
            have p2 := (kF.ext hys).cell 2
            have p3 := (kF.ext hys).cell 3
            have p4 := (kF.ext hys).cell 4
            have t0 := (kG.ext hys).cell 0
            have t1 := (kG.ext hys).cell 1
            have t2 := (kG.ext hys).cell 2
            have t3 := (kG.ext hys).cell 3
            have t4 := (kG.ext hys).cell 4
            go_upto_region 17 with (go_at_call 43; refine ((HM _ (hV.ext (hx2.trans hys)) hvR).out).mono ?_; rintro e w12 ⟨rfl, hx12⟩)
            have kM : Bk (w12.alloc (.cells #[.int .i64 0, .int .i64 0, .int .i64 0, .int .i64 0, .slice none 0 0] 26)) w12.heap.size 26 #[.int .i64 0, .int .i64 0, .int .i64 0, .int .i64 0, .slice none 0 0] := Bk.new' rfl
            have hyt := (hys.trans hx12).alloc (.cells #[.int .i64 0, .int .i64 0, .int .i64 0, .int .i64 0, .slice none 0 0] 26)
            clear p0 p1 p2 p3 p4 t0 t1 t2 t3 t4 hx12 HM kG hRd8 hvR
            generalize w12.alloc (.cells #[.int .i64 0, .int .i64 0, .int .i64 0, .int .i64 0, .slice none 0 0] 26) = w13 at *
            generalize w12.heap.size = hm at *
            cases Bw
            all_goals
              have HM2 := hidA HME.out
              simp only [if_true, if_false, Bool.false_eq_true] at HM2
              clear HME
              go_upto_region 18 with (first | (go_at_call 18; refine ((HNw _ _ (Rd.new (by first | rfl | simp) (by first | rfl | simp))).out).mono ?_; rintro e w14 ⟨rfl, hw14⟩; have hx14 : Ext w13 w14 := by (rw [← hw14]; (repeat (first | exact Ext.refl _ | assumption | refine Ext.setCell ?_ (by first | (simp; done) | (simp; omega)) _ | refine Ext.drewN ?_ _ | refine Ext.alloc ?_ _ | refine Ext.drew ?_ | refine Ext.trans ?_ (by assumption))))) | (go_at_call 19; refine ((HWh _ _ _).out).mono ?_; rintro e w15 ⟨rfl, rfl⟩) | (go_at_call 16; refine ((HS _ _ _ _ (Rd.new (by first | rfl | simp) (by first | rfl | simp))).out).mono ?_; rintro e w16 ⟨rfl, hw16⟩; have hx16 : Ext w13 w16 := by (rw [← hw16]; (repeat (first | exact Ext.refl _ | assumption | refine Ext.setCell ?_ (by first | (simp; done) | (simp; omega)) _ | refine Ext.drewN ?_ _ | refine Ext.alloc ?_ _ | refine Ext.drew ?_ | refine Ext.trans ?_ (by assumption))))))
              rw [← HM2.out]
              clear hw14 hw16 hx14 HM2 HNw HWh HS
              have m0 := (kM.ext hx16).cell 0
              have m1 := (kM.ext hx16).cell 1
              have m2 := (kM.ext hx16).cell 2
              have m3 := (kM.ext hx16).cell 3
              have m4 := (kM.ext hx16).cell 4
              go_wp2_with fail
              refine ((HZ _).out).mono ?_
              rintro e w17 ⟨rfl, hx17⟩
              go_wp2_with fail
              go_ret
              exact ⟨by first | rfl | simp, hx2.trans (hyt.trans (hx16.trans hx17))⟩
end Go.Proofs.Ytinohfgokpbcdaa
namespace Go.Proofs.Ytinohfgokpbcdaa
open Go.ChangeShapes Go.WideShapes Go.ChangeAt Go.RowKit Go.Joins Go.Deep

theorem snow_walk (X Y W H : Int) (A : Option Addr) (N c : Nat) (l : List Nat) (a b c1 d wm : Nat) (w : World) (hl : l.length = N) (hV : Rd w A (flt l)) (hb : N ≤ 140737488351232) :
    Calls Try.prog 7 #[.agg #[.int .i64 X, .int .i64 Y, .int .i64 W, .int .i64 H, .slice A N c], .agg #[.float .f32 a, .float .f32 b, .float .f32 c1, .float .f32 d], .float .f32 wm] w fun e w' => e = .returned (.bool true) ∧ Ext w w' := by
  by_cases hE : snowA X Y W H l a b c1 d = 0
  · have hf : fieldE X Y W H l = 0 := Classical.byContradiction fun h => by
      unfold snowA at hE
      rw [if_pos h] at hE
      exact h hE
    have hs : snowE a b c1 d = 0 := by
      unfold snowA at hE
      rwa [if_neg (fun h => h hf)] at hE
    obtain ⟨Wn, Hn, rfl, rfl, hr, hlN⟩ := field_zero hf
    exact snow_good_walk X Y Wn Hn N A c l a b c1 d wm w hr (by omega) hl hV hf hs
  · exact snow_bad_walk X Y W H N A c l a b c1 d wm w hl hV hb hE

set_option maxRecDepth 100000 in
set_option maxHeartbeats 1600000 in
theorem snowMatches_lifted (os : Os) (started : os.Started) (H : Type) (enc : TypeId × Value → H) :
    ReturnsInHanded {} Try.checked os 7 .any (Rows.snowMatchesSpec.pre6 enc Try.prog Try.f7 Rows.snowMatchesRow.domain false) (Rows.snowMatchesSpec.post enc Try.prog Try.f7 false true false false) := by
  refine returnsInHanded_of_change_sized (C := Try.checked) own started (by kernel_rfl) Try.func7
    (ChangeSpec.witness6 (enc := enc) (C := Try.checked) false ⟨#[], #[.agg #[.int .i64 0, .int .i64 0, .int .i64 0, .int .i64 0, .slice none 0 0], .agg #[.float .f32 0, .float .f32 0, .float .f32 0, .float .f32 0], .float .f32 0], []⟩ 8 (by kernel_rfl) (by kernel_rfl) (by kernel_rfl) (by kernel_rfl)) ?_
  intro W base args ds gs before hval0 hW _ hsz0 _
  have hsz : (DataW.weightsEach Try.prog (Try.f7.params.toList ++ Rows.snowMatchesSpec.plain.varTypes Try.prog) (ds ++ gs)).all (· ≤ reachBytes) = true := hsz0
  clear hsz0
  have hval : ∀ (j : Nat) t v, Try.f7.params[j]? = some t → args[j]? = some v → Value.okWide Try.prog W .any base t v := hval0
  have hW' := hW
  obtain ⟨p, q, hA0, hV, rfl, _, _⟩ := hW
  have hA : DataW.TrodAll enc Try.prog W 0 (fun _ => true) true Try.f7.params.toList args.toList ds p := hA0
  rw [Try.params7] at hA hval hsz
  obtain ⟨v0, vs0, d0, ds0, p0, q0, e0, rfl, rfl, h0, g0⟩ := trodAll_cons hA
  obtain ⟨v1, vs1, d1, ds1, p1, q1, rfl, rfl, rfl, h1, g1⟩ := trodAll_cons g0
  obtain ⟨v2, vs2, d2, ds2, p2, q2, rfl, rfl, rfl, h2, g2⟩ := trodAll_cons g1
  obtain ⟨rfl, rfl, rfl⟩ := trodAll_nil g2
  obtain ⟨L⟩ := args
  obtain rfl : L = [v0, v1, v2] := by simpa using e0
  obtain ⟨rfl, rfl⟩ := trodVars_none hV
  obtain ⟨x0, y0, w0, u0, A0, n0, c0, l0, rfl, hn0, hr0, hb0⟩ := open_field (hval 0 26 v0 rfl rfl) h0 (fun n hn => by
    have := List.all_eq_true.1 hsz n (by simp [DataW.weightsEach, hn])
    simpa using this)
  obtain ⟨a1, b1, c1, t1, rfl⟩ := open_snow (hval 1 66 v1 rfl rfl) h1
  obtain ⟨b2, rfl, rfl, rfl, _⟩ := open_float Try.underlying27 (hval 2 27 v2 rfl rfl) h2
  clear hA0 hval0
  simp only [List.append_nil] at hW'
  have hlt : ∀ x ∈ p0 ++ p1, x.block < W.heap.size := fun x hx => by simpa using hW'.lt x (by simpa using hx)
  refine (snow_walk x0 y0 w0 u0 A0 n0 c0 l0 a1 b1 c1 t1 b2 W hn0 hr0 hb0).mono fun e W' ⟨he, hx⟩ => ?_
  subst he
  refine ⟨_, rfl, _, _, _, [], p0 ++ (p1 ++ ([] ++ [])), [], hW', trodAll_mk1 (shut_bool Try.underlying4 _), ?_, rfl, Below.frame hx _, fun h => by cases h⟩
  refine trodAll_mk3 (Below.trod laidOut (by kernel_rfl) (of_decide_eq_true (by kernel_rfl)) h0 hx ?_) (Below.trod laidOut (by kernel_rfl) (of_decide_eq_true (by kernel_rfl)) h1 hx ?_) (Below.trod laidOut (by kernel_rfl) (of_decide_eq_true (by kernel_rfl)) h2 hx ?_)
  · exact fun x hx => hlt x (by simp [hx])
  · exact fun x hx => hlt x (by simp [hx])
  · exact fun x hx => by cases hx

theorem snowMatches_holds : Rows.SnowMatchesSaid :=
  OpenClaim.holds_of_wide 7 Try.f7 rfl rfl rfl rfl rfl rfl rfl ⟨rfl, rfl, rfl, rfl, rfl⟩ rfl rfl rfl rfl rfl (by kernel_rfl) Try.func7 (by kernel_rfl)
    (of_decide_eq_true (by kernel_rfl)) (by unfold Func.isWrapper; first | (rw [if_pos (by decide +kernel)]; kernel_rfl) | (rw [if_neg (by decide +kernel)]; exact ⟨rfl, rfl⟩))
    (fun os started H enc _ => snowMatches_lifted os started H enc)

end Go.Proofs.Ytinohfgokpbcdaa
