/- Contracts: slices.IndexFunc and ContainsFunc at what is out of range, field.CheckAll of at most one field, road.CheckRules. -/
import Derived.Test.YtpgdinpckolfpaaRdO
import Derived.Test.YtpgdinpckolfpaaCheckP
import Derived.Deep.DeepCutAuto
namespace Go.Proofs.Ytpgdinpckolfpaa
open Go.RowKit
attribute [local go_sem ↓] Go.wp_at_zero Go.wp_at_succ
attribute [local go_sem] run_store_float

/-- what is less than zero or greater than 1024 -/
def outB (b : Nat) : Bool := lt b 0 || gt b 1149239296
theorem out1_any (b : Nat) (w : World) : Calls Try.prog 62 #[.float .f32 b] w fun e w' => e = .returned (.bool (outB b)) ∧ w = w' := by
  obtain ⟨p, hp⟩ : ∃ p, lt b 0 = p := ⟨_, rfl⟩
  obtain ⟨q, hq⟩ : ∃ q, gt b 1149239296 = q := ⟨_, rfl⟩
  have ho : Hid (outB b = (p || q)) := by show _ = _; unfold outB; rw [hp, hq]
  have h1 : (FloatKind.f32.format.order b 0 == some .lt) = p := hp
  have h2 : (FloatKind.f32.format.order b 1149239296 == some .gt) = q := hq
  clear hp hq
  go_enter Try.func62, Try.ntmps62
  cases p <;> cases q
  all_goals
    go_wp2
    go_ret
    exact ⟨by rw [ho.out]; rfl, rfl⟩
set_option maxHeartbeats 1600000 in
theorem indexOut_any (B : Option Addr) (n d : Nat) (l : List Nat) (w : World) (hn : l.length = n) (hb : Rd w B (flt l)) (hnb : n ≤ 4000000000) :
    Calls Try.prog 104 #[.slice B n d, .func (.func 62) #[] #[]] w fun e w' => (∃ r : Int, e = .returned (.int .i64 r) ∧ (0 ≤ r ∧ l.any outB = true ∨ r = -1 ∧ l.any outB = false)) ∧ w = w' := by
  have Hn := hidA hn
  clear hn
  go_enter Try.func104, Try.ntmps104
  go_wp2
  go_loop [8] (fun i => ∃ k : Nat, k ≤ n ∧ i = .int .i64 k ∧ ∀ j, j < k → outB (l.getD j 0) = false) (fun i => n - (intOf i).toNat)
  case atStart => exact ⟨0, Nat.zero_le _, rfl, fun j hj => by omega⟩
  case round =>
    obtain ⟨k, hk, rfl, hall⟩ := hrel
    have Hall := hidA hall
    clear hall
    by_cases hlt : k < n
    · have hkl : k < l.length := by have := Hn.out; omega
      obtain ⟨ad2, rfl, hbk2, hc2⟩ := hb.at (k := k) (by simpa using hkl)
      have e1 := hc2 k _ (flt_get hkl)
      have ek : l.getD k 0 = l[k] := by simp [List.getD_eq_getElem?_getD, hkl]
      have HM := fun (w : World) => hidA (out1_any l[k] w)
      have k0 : (0 : Int) ≤ k := by omega
      have k1 : (k : Int) < n := by omega
      cases ho : outB l[k]
      · have Hnx := hidA (show ∀ j, j < k + 1 → outB (l.getD j 0) = false from fun j hj => by
          by_cases e : j = k
          · subst e; rw [ek]; exact ho
          · exact Hall.out j (by omega))
        rw [ho] at HM
        clear hc2 hb ho ek
        go_wp2_with (go_at_call 62; refine ((HM _).out).mono ?_; rintro e w' ⟨rfl, rfl⟩)
        go_round
        case rel => exact ⟨k + 1, by omega, by go_num, Hnx.out⟩
        case measure => simp [intOf]; omega
      · have Hany := hidA (show l.any outB = true from List.any_eq_true.2 ⟨l[k], List.getElem_mem hkl, ho⟩)
        rw [ho] at HM
        clear hc2 hb ho ek
        go_wp2_with (go_at_call 62; refine ((HM _).out).mono ?_; rintro e w' ⟨rfl, rfl⟩)
        go_ret
        exact ⟨⟨k, rfl, .inl ⟨by omega, Hany.out⟩⟩, rfl⟩
    · have hkn : n = k := by omega
      subst hkn
      have Hany := hidA (show l.any outB = false from List.any_eq_false.2 fun x hx => by
        obtain ⟨j, hj, rfl⟩ := List.mem_iff_getElem.1 hx
        have := Hall.out j (by have := Hn.out; omega)
        have ek : l.getD j 0 = l[j] := by simp [List.getD_eq_getElem?_getD, hj]
        rw [ek] at this
        rw [this]
        decide)
      go_wp2
      go_ret
      exact ⟨⟨-1, rfl, .inr ⟨rfl, by simpa using Hany.out⟩⟩, rfl⟩
theorem containsOut_any (B : Option Addr) (n d : Nat) (l : List Nat) (w : World) (hn : l.length = n) (hb : Rd w B (flt l)) (hnb : n ≤ 4000000000) :
    Calls Try.prog 61 #[.slice B n d, .func (.func 62) #[] #[]] w fun e w' => e = .returned (.bool (l.any outB)) ∧ w = w' := by
  have HI := fun w h1 => hidA (indexOut_any B n d l w hn h1 hnb)
  generalize l.any outB = q at *
  go_enter Try.func61, Try.ntmps61
  go_wp2_with fail
  refine ((HI _ hb).out).mono ?_
  rintro e w' ⟨⟨r, rfl, h⟩, rfl⟩
  rcases h with ⟨h1, rfl⟩ | ⟨rfl, rfl⟩
  · go_wp2
    go_ret
    exact ⟨ret_b (by simp), rfl⟩
  · go_wp2
    go_ret
    exact ⟨rfl, rfl⟩
theorem fieldE_len0 {x y a b : Int} {l : List Nat} (hz : fieldE x y a b l = 0) : l.length ≤ 65536 := by
  unfold fieldE at hz
  by_cases h1 : regE x y a b = 0
  · rw [if_neg (by simpa using h1)] at hz
    by_cases h2 : (l.length : Int) = a * b
    · unfold regE at h1
      split at h1
      · cases h1
      · split at h1
        · cases h1
        · omega
    · rw [if_pos h2] at hz
      cases hz
  · rw [if_pos h1] at hz
    exact absurd hz h1
/-- what ground costs besides, as it is handed over: at most one field is looked at -/
structure CoP (w : World) (C : Option Addr) (m : Nat) (X' Y' W' H' : Int) (l : List Nat) : Prop where
  one : m = 1 → ∃ (B : Option Addr) (c' : Nat), Rd w C [.int .i64 X', .int .i64 Y', .int .i64 W', .int .i64 H', .slice B l.length c'] ∧ Rd w B (flt l) ∧ l.length ≤ 140737488351232
theorem CoP.ext {w w' : World} {C : Option Addr} {m : Nat} {X' Y' W' H' : Int} {l : List Nat} (h : CoP w C m X' Y' W' H' l) (hx : Ext w w') : CoP w' C m X' Y' W' H' l :=
  ⟨fun e => by obtain ⟨B, c', h1, h2, h3⟩ := h.one e; exact ⟨B, c', h1.ext hx, h2.ext hx, h3⟩⟩
set_option maxRecDepth 100000 in
set_option maxHeartbeats 3200000 in
theorem checkAll1_any (C : Option Addr) (m cc : Nat) (X' Y' W' H' : Int) (l : List Nat) (w : World) (hC : CoP w C m X' Y' W' H' l) (hm : m ≤ 1) :
    Calls Try.prog 60 #[.slice C m cc] w fun e w' => e = .returned (.int .i64 (if m = 0 then 0 else fieldE X' Y' W' H' l)) ∧ Ext w w' := by
  rcases (by omega : m = 0 ∨ m = 1) with rfl | rfl
  · go_enter Try.func60, Try.ntmps60
    go_wp2_with fail
    go_loopw [8] (fun i wr => i = .int .i64 0 ∧ Ext w wr) (fun i _ => 0)
    case atStart => exact ⟨rfl, (by repeat (first | exact Ext.refl _ | assumption | refine Ext.setCell ?_ (by first | (simp; done) | (simp; omega)) _ | refine Ext.drewN ?_ _ | refine Ext.alloc ?_ _ | refine Ext.drew ?_ | refine Ext.trans ?_ (by assumption)))⟩
    case round =>
      obtain ⟨rfl, hx⟩ := hrel
      go_wp2
      go_ret
      exact ⟨rfl, hx⟩
  · obtain ⟨B, c', h1, h2, h3⟩ := hC.one rfl
    obtain ⟨ad, rfl, hbk, hc⟩ := h1 (by simp)
    have d0 := hc 0 _ rfl
    have d1 := hc 1 _ rfl
    have d2 := hc 2 _ rfl
    have d3 := hc 3 _ rfl
    have d4 := hc 4 _ rfl
    rw [show ad.add 0 = ad from rfl] at d0
    rw [add_pos _ (by omega)] at d1 d2 d3 d4
    have HC := fun (w' : World) (h : Ext w w') => hidA (check_any X' Y' W' H' B l.length c' l w' rfl (h2.ext h) h3)
    have he : (if (1 : Nat) = 0 then (0 : Int) else fieldE X' Y' W' H' l) = fieldE X' Y' W' H' l := rfl
    rw [he]
    generalize fieldE X' Y' W' H' l = fe at *
    clear hC h1 h2 hc he hm
    go_enter Try.func60, Try.ntmps60
    go_wp2_with fail
    go_loopw [8] (fun i wr => ∃ k : Nat, k ≤ 1 ∧ i = .int .i64 k ∧ (k = 1 → fe = 0) ∧ Ext w wr) (fun i _ => 1 - (intOf i).toNat)
    case atStart => exact ⟨0, by omega, rfl, fun h => by omega, (by repeat (first | exact Ext.refl _ | assumption | refine Ext.setCell ?_ (by first | (simp; done) | (simp; omega)) _ | refine Ext.drewN ?_ _ | refine Ext.alloc ?_ _ | refine Ext.drew ?_ | refine Ext.trans ?_ (by assumption)))⟩
    case round =>
      obtain ⟨k, hk, rfl, hz, hx⟩ := hrel
      rcases (by omega : k = 0 ∨ k = 1) with rfl | rfl
      · have D0 := (hx.cell ad hbk).trans d0
        have D1 := (hx.cell ⟨ad.block, ad.off + 1, none⟩ hbk).trans d1
        have D2 := (hx.cell ⟨ad.block, ad.off + 2, none⟩ hbk).trans d2
        have D3 := (hx.cell ⟨ad.block, ad.off + 3, none⟩ hbk).trans d3
        have D4 := (hx.cell ⟨ad.block, ad.off + 4, none⟩ hbk).trans d4
        clear d0 d1 d2 d3 d4 hz
        go_wp2_with fail
        refine ((HC _ ?_).out).mono ?_
        · (repeat (first | exact Ext.refl _ | assumption | refine Ext.setCell ?_ (by first | (simp; done) | (simp; omega)) _ | refine Ext.drewN ?_ _ | refine Ext.alloc ?_ _ | refine Ext.drew ?_ | refine Ext.trans ?_ (by assumption)))
        rintro e w5 ⟨rfl, hb5⟩
        by_cases hz : fe = 0
        · have b0 : (fe != 0) = false := by simpa using hz
          have Hz := hidA hz
          clear hz
          go_wp2_with fail
          go_roundw
          case rel => exact ⟨1, by omega, rfl, fun _ => Hz.out, (by repeat (first | exact Ext.refl _ | assumption | refine Ext.setCell ?_ (by first | (simp; done) | (simp; omega)) _ | refine Ext.drewN ?_ _ | refine Ext.alloc ?_ _ | refine Ext.drew ?_ | refine Ext.trans ?_ (by assumption)))⟩
          case measure => decide
        · have b0 : (fe != 0) = true := by simpa using hz
          go_wp2
          go_ret
          exact ⟨rfl, (by repeat (first | exact Ext.refl _ | assumption | refine Ext.setCell ?_ (by first | (simp; done) | (simp; omega)) _ | refine Ext.drewN ?_ _ | refine Ext.alloc ?_ _ | refine Ext.drew ?_ | refine Ext.trans ?_ (by assumption)))⟩
      · have hz0 := hz rfl
        subst hz0
        go_wp2
        go_ret
        exact ⟨rfl, hx⟩
/-- the error of rules -/
def spanB (sp : Int) : Bool := sp != 0 && (decide (sp < 2) || decide (12 < sp))
def coE (m : Nat) (X' Y' W' H' : Int) (l : List Nat) : Int := if 1 < m then 4 else if m = 0 then 0 else if fieldE X' Y' W' H' l ≠ 0 then fieldE X' Y' W' H' l else if l.any outB = true then 3 else 0
def rulesE (gr wt br de : Nat) (sp : Int) (m : Nat) (X' Y' W' H' : Int) (l : List Nat) : Int :=
  if numE [gr, wt, br, de] ≠ 0 then numE [gr, wt, br, de]
  else if outB gr = true ∨ outB wt = true ∨ outB de = true then 3
  else if lt br 1065353216 = true ∨ gt br 1149239296 = true ∨ spanB sp = true then 3
  else coE m X' Y' W' H' l
theorem idx0 {a b c : Nat} (w : World) : (Instr.index 109 (.agg #[.float .f32 a, .float .f32 b, .float .f32 c]) (.int .i64 0)).run Try.prog w = .ok (.float .f32 a) w := by kernel_rfl
theorem idx1 {a b c : Nat} (w : World) : (Instr.index 109 (.agg #[.float .f32 a, .float .f32 b, .float .f32 c]) (.int .i64 1)).run Try.prog w = .ok (.float .f32 b) w := by kernel_rfl
theorem idx2 {a b c : Nat} (w : World) : (Instr.index 109 (.agg #[.float .f32 a, .float .f32 b, .float .f32 c]) (.int .i64 2)).run Try.prog w = .ok (.float .f32 c) w := by kernel_rfl
set_option maxRecDepth 100000 in
set_option maxHeartbeats 6400000 in
theorem CheckRules_any (gr wt br de : Nat) (sp : Int) (C : Option Addr) (m cc : Nat) (X' Y' W' H' : Int) (l : List Nat) (w : World) (hC : CoP w C m X' Y' W' H' l) (hm : m ≤ 140737488351232) :
    Calls Try.prog 13 #[.agg #[.float .f32 gr, .float .f32 wt, .float .f32 br, .float .f32 de, .int .i64 sp, .slice C m cc]] w fun e w' => e = .returned (.int .i64 (rulesE gr wt br de sp m X' Y' W' H' l)) ∧ Ext w w' := by
  have HHe := fun (w' : World) (A : Option Addr) (h : Rd w' A (flt [gr, wt, br, de])) => hidA (heights_any A 4 4 [gr, wt, br, de] w' rfl h (by omega))
  have HAl := fun (w' : World) (h : Ext w w') (hm1 : m ≤ 1) => hidA (checkAll1_any C m cc X' Y' W' H' l w' (hC.ext h) hm1)
  have HC := hidA hC
  have ia := @idx0 gr wt de
  have ib := @idx1 gr wt de
  have ic := @idx2 gr wt de
  have hE : Hid (rulesE gr wt br de sp m X' Y' W' H' l = if numE [gr, wt, br, de] ≠ 0 then numE [gr, wt, br, de]
    else if outB gr = true ∨ outB wt = true ∨ outB de = true then 3
    else if lt br 1065353216 = true ∨ gt br 1149239296 = true ∨ spanB sp = true then 3
    else coE m X' Y' W' H' l) := rfl
  generalize rulesE gr wt br de sp m X' Y' W' H' l = E at *
  generalize numE [gr, wt, br, de] = ne at *
  clear hC
  go_enter Try.func13, Try.ntmps13
  go_upto_region 1 with fail
  have kR : Bk (w.alloc (.cells #[.float .f32 gr, .float .f32 wt, .float .f32 br, .float .f32 de, .int .i64 sp, .slice C m cc] 30)) w.heap.size 30 #[.float .f32 gr, .float .f32 wt, .float .f32 br, .float .f32 de, .int .i64 sp, .slice C m cc] := Bk.new' rfl
  have hx0 : Ext w (w.alloc (.cells #[.float .f32 gr, .float .f32 wt, .float .f32 br, .float .f32 de, .int .i64 sp, .slice C m cc] 30)) := (Ext.refl w).alloc _
  generalize w.alloc (.cells #[.float .f32 gr, .float .f32 wt, .float .f32 br, .float .f32 de, .int .i64 sp, .slice C m cc] 30) = w0 at *
  generalize w.heap.size = hr at *
  have r0 := kR.cell 0
  have r1 := kR.cell 1
  have r2 := kR.cell 2
  have r3 := kR.cell 3
  go_upto_region 2 with (go_at_call 59; refine ((HHe _ _ (Rd.new rfl rfl)).out).mono ?_; rintro e w1 ⟨rfl, hw1⟩)
  have hx1 : Ext w w1 := by rw [← hw1]; exact hx0.alloc _
  have kR1 : Bk w1 hr 30 #[.float .f32 gr, .float .f32 wt, .float .f32 br, .float .f32 de, .int .i64 sp, .slice C m cc] := by rw [← hw1]; exact kR.alloc _
  clear hw1 HHe kR hx0 r0 r1 r2 r3
  have r0 := kR1.cell 0
  have r1 := kR1.cell 1
  have r2 := kR1.cell 2
  have r3 := kR1.cell 3
  have r4 := kR1.cell 4
  have r5 := kR1.cell 5
  by_cases hne : ne = 0
  · have bne : (ne != 0) = false := by simpa using hne
    have hE2 := hE.out
    rw [if_neg (by simpa using hne)] at hE2
    have HE2 := hidA hE2
    clear hE hE2 hne
    go_upto_region 5 with fail
    go_loopw [29, 5] (fun s29 _ wr => ∃ k : Nat, k ≤ 3 ∧ s29 = .int .i64 k ∧ (1 ≤ k → outB gr = false) ∧ (2 ≤ k → outB wt = false) ∧ (3 ≤ k → outB de = false) ∧ wr = w1) (fun s29 _ _ => 3 - (intOf s29).toNat)
    case atStart => exact ⟨0, by omega, rfl, fun h => by omega, fun h => by omega, fun h => by omega, rfl⟩
    case round =>
      obtain ⟨k, hk, rfl, h1, h2, h3, rfl⟩ := hrel
      rcases (by omega : k = 0 ∨ k = 1 ∨ k = 2 ∨ k = 3) with rfl | rfl | rfl | rfl
      · obtain ⟨p, hp⟩ : ∃ p, lt gr 0 = p := ⟨_, rfl⟩
        obtain ⟨q, hq⟩ : ∃ q, gt gr 1149239296 = q := ⟨_, rfl⟩
        have ho : Hid (outB gr = (p || q)) := by show _ = _; unfold outB; rw [hp, hq]
        have g1 : (FloatKind.f32.format.order gr 0 == some .lt) = p := hp
        have g2 : (FloatKind.f32.format.order gr 1149239296 == some .gt) = q := hq
        have H1 := hidA h1
        have H2 := hidA h2
        have H3 := hidA h3
        have HEt := hidA (show outB gr = true → E = 3 from fun h => by rw [HE2.out, if_pos (by simp [h])])
        clear hp hq h1 h2 h3
        cases p
        · cases q
          · have Ho := hidA (show outB gr = false from ho.out)
            go_wp2
            go_roundw
            case rel => exact ⟨0+1, by omega, rfl, fun _ => Ho.out, fun h => by omega, fun h => by omega, trivial⟩
            case measure => decide
          · have hE9 := HEt.out ho.out
            subst hE9
            go_wp2
            go_ret
            exact ⟨rfl, hx1⟩
        · have hE9 := HEt.out (by rw [ho.out]; rfl)
          subst hE9
          go_wp2
          go_ret
          exact ⟨rfl, hx1⟩
      · obtain ⟨p, hp⟩ : ∃ p, lt wt 0 = p := ⟨_, rfl⟩
        obtain ⟨q, hq⟩ : ∃ q, gt wt 1149239296 = q := ⟨_, rfl⟩
        have ho : Hid (outB wt = (p || q)) := by show _ = _; unfold outB; rw [hp, hq]
        have g1 : (FloatKind.f32.format.order wt 0 == some .lt) = p := hp
        have g2 : (FloatKind.f32.format.order wt 1149239296 == some .gt) = q := hq
        have H1 := hidA h1
        have H2 := hidA h2
        have H3 := hidA h3
        have HEt := hidA (show outB wt = true → E = 3 from fun h => by rw [HE2.out, if_pos (by simp [h])])
        clear hp hq h1 h2 h3
        cases p
        · cases q
          · have Ho := hidA (show outB wt = false from ho.out)
            go_wp2
            go_roundw
            case rel => exact ⟨1+1, by omega, rfl, fun _ => H1.out (by omega), fun _ => Ho.out, fun h => by omega, trivial⟩
            case measure => decide
          · have hE9 := HEt.out ho.out
            subst hE9
            go_wp2
            go_ret
            exact ⟨rfl, hx1⟩
        · have hE9 := HEt.out (by rw [ho.out]; rfl)
          subst hE9
          go_wp2
          go_ret
          exact ⟨rfl, hx1⟩
      · obtain ⟨p, hp⟩ : ∃ p, lt de 0 = p := ⟨_, rfl⟩
        obtain ⟨q, hq⟩ : ∃ q, gt de 1149239296 = q := ⟨_, rfl⟩
        have ho : Hid (outB de = (p || q)) := by show _ = _; unfold outB; rw [hp, hq]
        have g1 : (FloatKind.f32.format.order de 0 == some .lt) = p := hp
        have g2 : (FloatKind.f32.format.order de 1149239296 == some .gt) = q := hq
        have H1 := hidA h1
        have H2 := hidA h2
        have H3 := hidA h3
        have HEt := hidA (show outB de = true → E = 3 from fun h => by rw [HE2.out, if_pos (by simp [h])])
        clear hp hq h1 h2 h3
        cases p
        · cases q
          · have Ho := hidA (show outB de = false from ho.out)
            go_wp2
            go_roundw
            case rel => exact ⟨2+1, by omega, rfl, fun _ => H1.out (by omega), fun _ => H2.out (by omega), fun _ => Ho.out, trivial⟩
            case measure => decide
          · have hE9 := HEt.out ho.out
            subst hE9
            go_wp2
            go_ret
            exact ⟨rfl, hx1⟩
        · have hE9 := HEt.out (by rw [ho.out]; rfl)
          subst hE9
          go_wp2
          go_ret
          exact ⟨rfl, hx1⟩
      · have o1 := h1 (by omega)
        have o2 := h2 (by omega)
        have o3 := h3 (by omega)
        have hE3 := HE2.out
        rw [if_neg (by simp [o1, o2, o3])] at hE3
        have HE3 := hidA hE3
        clear hE3 HE2 h1 h2 h3 o1 o2 o3
        obtain ⟨p, hp⟩ : ∃ p, lt br 1065353216 = p := ⟨_, rfl⟩
        obtain ⟨q, hq⟩ : ∃ q, gt br 1149239296 = q := ⟨_, rfl⟩
        have g1 : (FloatKind.f32.format.order br 1065353216 == some .lt) = p := hp
        have g2 : (FloatKind.f32.format.order br 1149239296 == some .gt) = q := hq
        have HEt := hidA (show (p = true ∨ q = true ∨ spanB sp = true) → E = 3 from fun h => by rw [HE3.out, hp, hq, if_pos h])
        have HE4 := hidA (show p = false → q = false → spanB sp = false → E = coE m X' Y' W' H' l from fun h1 h2 h3 => by rw [HE3.out, hp, hq, if_neg (by simp [h1, h2, h3])])
        clear hp hq
        cases p
        case true =>
          have hE9 := HEt.out (.inl rfl)
          subst hE9
          go_wp2
          go_ret
          exact ⟨rfl, hx1⟩
        cases q
        case true =>
          have hE9 := HEt.out (.inr (.inl rfl))
          subst hE9
          go_wp2
          go_ret
          exact ⟨rfl, hx1⟩
        have HE4 := hidA (HE4.out rfl rfl)
        rcases (by omega : sp = 0 ∨ (¬ sp = 0 ∧ sp < 2) ∨ (¬ sp = 0 ∧ ¬ sp < 2 ∧ 12 < sp) ∨ (¬ sp = 0 ∧ ¬ sp < 2 ∧ ¬ 12 < sp)) with rfl | ⟨e1, e2⟩ | ⟨e1, e2, e3⟩ | ⟨e1, e2, e3⟩
        · have b1 : ((0 : Int) != 0) = false := rfl
          have HE5 := hidA (HE4.out (by first | (unfold spanB; simp; done) | (unfold spanB; simp; omega)))
          go_upto_region 12 with fail
          clear g1 g2 HE3 HE4 HEt
          by_cases hm1 : 1 < m
          · have hm2 : (1 : Int) < m := by omega
            have HE6 := hidA (show E = 4 from by rw [HE5.out]; unfold coE; rw [if_pos hm1])
            clear hm1 HE5
            go_wp2
            go_ret
            exact ⟨ret_i HE6.out.symm, hx1⟩
          · have hm2 : ¬ (1 : Int) < m := by omega
            have hmle : m ≤ 1 := by omega
            have HE6 := hidA (show E = if m = 0 then 0 else if fieldE X' Y' W' H' l ≠ 0 then fieldE X' Y' W' H' l else if l.any outB = true then 3 else 0 from by rw [HE5.out]; unfold coE; rw [if_neg hm1])
            have HA1 := fun (w' : World) (h : Ext wr w') => HAl w' (hx1.trans h) hmle
            rcases (by omega : m = 0 ∨ m = 1) with rfl | rfl
            · have HE7 := hidA (HE6.out.trans (if_pos rfl))
              clear hm1 HE5 HE6
              go_upto_region 17 with (go_at_call 60; refine ((HA1 _ (by repeat (first | exact Ext.refl _ | assumption | refine Ext.setCell ?_ (by first | (simp; done) | (simp; omega)) _ | refine Ext.drewN ?_ _ | refine Ext.alloc ?_ _ | refine Ext.drew ?_ | refine Ext.trans ?_ (by assumption)))).out).mono ?_; rintro e w5 ⟨rfl, hx5⟩)
              have kR5 := kR1.ext hx5
              have r5 := kR5.cell 5
              go_upto_region 18 with fail
              go_loopw [75] (fun s75 wx => s75 = .int .i64 0 ∧ Ext w5 wx) (fun _ _ => 0)
              case atStart => exact ⟨rfl, Ext.refl _⟩
              case round =>
                obtain ⟨rfl, hx⟩ := hrel
                go_wp2
                go_ret
                exact ⟨ret_i HE7.out.symm, (hx1.trans hx5).trans hx⟩
            · have HE7 := hidA (HE6.out.trans (if_neg (by omega)))
              clear hm1 HE5 HE6
              obtain ⟨B, c', q1, q2, q3⟩ := HC.out.one rfl
              by_cases hfe : fieldE X' Y' W' H' l = 0
              · have HE8 := hidA (HE7.out.trans (if_neg (by simp [hfe])))
                have hlen := fieldE_len0 hfe
                have hfe2 : (if (1 : Nat) = 0 then (0 : Int) else fieldE X' Y' W' H' l) = 0 := hfe
                rw [hfe2] at HA1
                have HCt := fun (w' : World) (h : Ext w w') => hidA (containsOut_any B l.length c' l w' rfl (q2.ext h) (by omega))
                clear HE7 hfe hfe2
                go_upto_region 17 with (go_at_call 60; refine ((HA1 _ (by repeat (first | exact Ext.refl _ | assumption | refine Ext.setCell ?_ (by first | (simp; done) | (simp; omega)) _ | refine Ext.drewN ?_ _ | refine Ext.alloc ?_ _ | refine Ext.drew ?_ | refine Ext.trans ?_ (by assumption)))).out).mono ?_; rintro e w5 ⟨rfl, hx5⟩)
                have kR5 := kR1.ext hx5
                have r5 := kR5.cell 5
                go_upto_region 18 with fail
                obtain ⟨ad, rfl, hbk, hc⟩ := q1 (by simp)
                have d0 := hc 0 _ rfl
                have d1 := hc 1 _ rfl
                have d2 := hc 2 _ rfl
                have d3 := hc 3 _ rfl
                have d4 := hc 4 _ rfl
                rw [show ad.add 0 = ad from rfl] at d0
                rw [add_pos _ (by omega)] at d1 d2 d3 d4
                have hxx := hx1.trans hx5
                go_loopw [75] (fun s75 wx => ∃ k : Nat, k ≤ 1 ∧ s75 = .int .i64 k ∧ (k = 1 → l.any outB = false) ∧ Ext w wx) (fun s75 _ => 1 - (intOf s75).toNat)
                case atStart => exact ⟨0, by omega, rfl, fun h => by omega, hxx⟩
                case round =>
                  obtain ⟨k, hk, rfl, hz, hx⟩ := hrel
                  have HEx := hidA HE8
                  rcases (by omega : k = 0 ∨ k = 1) with rfl | rfl
                  · have D0 := (hx.cell ad hbk).trans d0
                    have D1 := (hx.cell ⟨ad.block, ad.off + 1, none⟩ hbk).trans d1
                    have D2 := (hx.cell ⟨ad.block, ad.off + 2, none⟩ hbk).trans d2
                    have D3 := (hx.cell ⟨ad.block, ad.off + 3, none⟩ hbk).trans d3
                    have D4 := (hx.cell ⟨ad.block, ad.off + 4, none⟩ hbk).trans d4
                    have HC1 := fun (w' : World) (h : Ext wr w') => hidA (HCt w' (hx.trans h)).out
                    clear d0 d1 d2 d3 d4 hz
                    cases hany : l.any outB
                    · have Hany := hidA hany
                      rw [hany] at HC1
                      clear hany
                      go_wp2_with (go_at_call 61; refine ((HC1 _ (by repeat (first | exact Ext.refl _ | assumption | refine Ext.setCell ?_ (by first | (simp; done) | (simp; omega)) _ | refine Ext.drewN ?_ _ | refine Ext.alloc ?_ _ | refine Ext.drew ?_ | refine Ext.trans ?_ (by assumption)))).out).mono ?_; rintro e w7 ⟨rfl, rfl⟩)
                      go_roundw
                      case rel => exact ⟨1, by omega, rfl, fun _ => by first | exact Hany.out | trivial, (by repeat (first | exact Ext.refl _ | assumption | refine Ext.setCell ?_ (by first | (simp; done) | (simp; omega)) _ | refine Ext.drewN ?_ _ | refine Ext.alloc ?_ _ | refine Ext.drew ?_ | refine Ext.trans ?_ (by assumption)))⟩
                      case measure => decide
                    · have HE9 := hidA (HE8.out.trans (if_pos hany))
                      rw [hany] at HC1
                      clear hany
                      go_wp2_with (go_at_call 61; refine ((HC1 _ (by repeat (first | exact Ext.refl _ | assumption | refine Ext.setCell ?_ (by first | (simp; done) | (simp; omega)) _ | refine Ext.drewN ?_ _ | refine Ext.alloc ?_ _ | refine Ext.drew ?_ | refine Ext.trans ?_ (by assumption)))).out).mono ?_; rintro e w7 ⟨rfl, rfl⟩)
                      go_ret
                      exact ⟨ret_i HE9.out.symm, (by repeat (first | exact Ext.refl _ | assumption | refine Ext.setCell ?_ (by first | (simp; done) | (simp; omega)) _ | refine Ext.drewN ?_ _ | refine Ext.alloc ?_ _ | refine Ext.drew ?_ | refine Ext.trans ?_ (by assumption)))⟩
                  · have hz0 := hz rfl
                    have HE9 := hidA (HE8.out.trans (if_neg (by rw [hz0]; decide)))
                    clear hz hz0
                    go_wp2
                    go_ret
                    exact ⟨ret_i HE9.out.symm, hx⟩
              · have bfe : (fieldE X' Y' W' H' l != 0) = true := by simpa using hfe
                have HE8 := hidA (HE7.out.trans (if_pos hfe))
                have hfe2 : (if (1 : Nat) = 0 then (0 : Int) else fieldE X' Y' W' H' l) = fieldE X' Y' W' H' l := rfl
                rw [hfe2] at HA1
                clear hfe hfe2
                generalize fieldE X' Y' W' H' l = fe at *
                go_wp2_with (go_at_call 60; refine ((HA1 _ (by repeat (first | exact Ext.refl _ | assumption | refine Ext.setCell ?_ (by first | (simp; done) | (simp; omega)) _ | refine Ext.drewN ?_ _ | refine Ext.alloc ?_ _ | refine Ext.drew ?_ | refine Ext.trans ?_ (by assumption)))).out).mono ?_; rintro e w5 ⟨rfl, hx5⟩)
                go_ret
                exact ⟨ret_i HE8.out.symm, hx1.trans hx5⟩
        · have b1 : (sp != 0) = true := by simpa using e1
          have hE9 := HEt.out (.inr (.inr (by unfold spanB; simp; omega)))
          subst hE9
          go_wp2
          go_ret
          exact ⟨rfl, hx1⟩
        · have b1 : (sp != 0) = true := by simpa using e1
          have hE9 := HEt.out (.inr (.inr (by unfold spanB; simp; omega)))
          subst hE9
          go_wp2
          go_ret
          exact ⟨rfl, hx1⟩
        · have b1 : (sp != 0) = true := by simpa using e1
          have HE5 := hidA (HE4.out (by first | (unfold spanB; simp; done) | (unfold spanB; simp; omega)))
          go_upto_region 12 with fail
          clear g1 g2 HE3 HE4 HEt
          by_cases hm1 : 1 < m
          · have hm2 : (1 : Int) < m := by omega
            have HE6 := hidA (show E = 4 from by rw [HE5.out]; unfold coE; rw [if_pos hm1])
            clear hm1 HE5
            go_wp2
            go_ret
            exact ⟨ret_i HE6.out.symm, hx1⟩
          · have hm2 : ¬ (1 : Int) < m := by omega
            have hmle : m ≤ 1 := by omega
            have HE6 := hidA (show E = if m = 0 then 0 else if fieldE X' Y' W' H' l ≠ 0 then fieldE X' Y' W' H' l else if l.any outB = true then 3 else 0 from by rw [HE5.out]; unfold coE; rw [if_neg hm1])
            have HA1 := fun (w' : World) (h : Ext wr w') => HAl w' (hx1.trans h) hmle
            rcases (by omega : m = 0 ∨ m = 1) with rfl | rfl
            · have HE7 := hidA (HE6.out.trans (if_pos rfl))
              clear hm1 HE5 HE6
              go_upto_region 17 with (go_at_call 60; refine ((HA1 _ (by repeat (first | exact Ext.refl _ | assumption | refine Ext.setCell ?_ (by first | (simp; done) | (simp; omega)) _ | refine Ext.drewN ?_ _ | refine Ext.alloc ?_ _ | refine Ext.drew ?_ | refine Ext.trans ?_ (by assumption)))).out).mono ?_; rintro e w5 ⟨rfl, hx5⟩)
              have kR5 := kR1.ext hx5
              have r5 := kR5.cell 5
              go_upto_region 18 with fail
              go_loopw [75] (fun s75 wx => s75 = .int .i64 0 ∧ Ext w5 wx) (fun _ _ => 0)
              case atStart => exact ⟨rfl, Ext.refl _⟩
              case round =>
                obtain ⟨rfl, hx⟩ := hrel
                go_wp2
                go_ret
                exact ⟨ret_i HE7.out.symm, (hx1.trans hx5).trans hx⟩
            · have HE7 := hidA (HE6.out.trans (if_neg (by omega)))
              clear hm1 HE5 HE6
              obtain ⟨B, c', q1, q2, q3⟩ := HC.out.one rfl
              by_cases hfe : fieldE X' Y' W' H' l = 0
              · have HE8 := hidA (HE7.out.trans (if_neg (by simp [hfe])))
                have hlen := fieldE_len0 hfe
                have hfe2 : (if (1 : Nat) = 0 then (0 : Int) else fieldE X' Y' W' H' l) = 0 := hfe
                rw [hfe2] at HA1
                have HCt := fun (w' : World) (h : Ext w w') => hidA (containsOut_any B l.length c' l w' rfl (q2.ext h) (by omega))
                clear HE7 hfe hfe2
                go_upto_region 17 with (go_at_call 60; refine ((HA1 _ (by repeat (first | exact Ext.refl _ | assumption | refine Ext.setCell ?_ (by first | (simp; done) | (simp; omega)) _ | refine Ext.drewN ?_ _ | refine Ext.alloc ?_ _ | refine Ext.drew ?_ | refine Ext.trans ?_ (by assumption)))).out).mono ?_; rintro e w5 ⟨rfl, hx5⟩)
                have kR5 := kR1.ext hx5
                have r5 := kR5.cell 5
                go_upto_region 18 with fail
                obtain ⟨ad, rfl, hbk, hc⟩ := q1 (by simp)
                have d0 := hc 0 _ rfl
                have d1 := hc 1 _ rfl
                have d2 := hc 2 _ rfl
                have d3 := hc 3 _ rfl
                have d4 := hc 4 _ rfl
                rw [show ad.add 0 = ad from rfl] at d0
                rw [add_pos _ (by omega)] at d1 d2 d3 d4
                have hxx := hx1.trans hx5
                go_loopw [75] (fun s75 wx => ∃ k : Nat, k ≤ 1 ∧ s75 = .int .i64 k ∧ (k = 1 → l.any outB = false) ∧ Ext w wx) (fun s75 _ => 1 - (intOf s75).toNat)
                case atStart => exact ⟨0, by omega, rfl, fun h => by omega, hxx⟩
                case round =>
                  obtain ⟨k, hk, rfl, hz, hx⟩ := hrel
                  have HEx := hidA HE8
                  rcases (by omega : k = 0 ∨ k = 1) with rfl | rfl
                  · have D0 := (hx.cell ad hbk).trans d0
                    have D1 := (hx.cell ⟨ad.block, ad.off + 1, none⟩ hbk).trans d1
                    have D2 := (hx.cell ⟨ad.block, ad.off + 2, none⟩ hbk).trans d2
                    have D3 := (hx.cell ⟨ad.block, ad.off + 3, none⟩ hbk).trans d3
                    have D4 := (hx.cell ⟨ad.block, ad.off + 4, none⟩ hbk).trans d4
                    have HC1 := fun (w' : World) (h : Ext wr w') => hidA (HCt w' (hx.trans h)).out
                    clear d0 d1 d2 d3 d4 hz
                    cases hany : l.any outB
                    · have Hany := hidA hany
                      rw [hany] at HC1
                      clear hany
                      go_wp2_with (go_at_call 61; refine ((HC1 _ (by repeat (first | exact Ext.refl _ | assumption | refine Ext.setCell ?_ (by first | (simp; done) | (simp; omega)) _ | refine Ext.drewN ?_ _ | refine Ext.alloc ?_ _ | refine Ext.drew ?_ | refine Ext.trans ?_ (by assumption)))).out).mono ?_; rintro e w7 ⟨rfl, rfl⟩)
                      go_roundw
                      case rel => exact ⟨1, by omega, rfl, fun _ => by first | exact Hany.out | trivial, (by repeat (first | exact Ext.refl _ | assumption | refine Ext.setCell ?_ (by first | (simp; done) | (simp; omega)) _ | refine Ext.drewN ?_ _ | refine Ext.alloc ?_ _ | refine Ext.drew ?_ | refine Ext.trans ?_ (by assumption)))⟩
                      case measure => decide
                    · have HE9 := hidA (HE8.out.trans (if_pos hany))
                      rw [hany] at HC1
                      clear hany
                      go_wp2_with (go_at_call 61; refine ((HC1 _ (by repeat (first | exact Ext.refl _ | assumption | refine Ext.setCell ?_ (by first | (simp; done) | (simp; omega)) _ | refine Ext.drewN ?_ _ | refine Ext.alloc ?_ _ | refine Ext.drew ?_ | refine Ext.trans ?_ (by assumption)))).out).mono ?_; rintro e w7 ⟨rfl, rfl⟩)
                      go_ret
                      exact ⟨ret_i HE9.out.symm, (by repeat (first | exact Ext.refl _ | assumption | refine Ext.setCell ?_ (by first | (simp; done) | (simp; omega)) _ | refine Ext.drewN ?_ _ | refine Ext.alloc ?_ _ | refine Ext.drew ?_ | refine Ext.trans ?_ (by assumption)))⟩
                  · have hz0 := hz rfl
                    have HE9 := hidA (HE8.out.trans (if_neg (by rw [hz0]; decide)))
                    clear hz hz0
                    go_wp2
                    go_ret
                    exact ⟨ret_i HE9.out.symm, hx⟩
              · have bfe : (fieldE X' Y' W' H' l != 0) = true := by simpa using hfe
                have HE8 := hidA (HE7.out.trans (if_pos hfe))
                have hfe2 : (if (1 : Nat) = 0 then (0 : Int) else fieldE X' Y' W' H' l) = fieldE X' Y' W' H' l := rfl
                rw [hfe2] at HA1
                clear hfe hfe2
                generalize fieldE X' Y' W' H' l = fe at *
                go_wp2_with (go_at_call 60; refine ((HA1 _ (by repeat (first | exact Ext.refl _ | assumption | refine Ext.setCell ?_ (by first | (simp; done) | (simp; omega)) _ | refine Ext.drewN ?_ _ | refine Ext.alloc ?_ _ | refine Ext.drew ?_ | refine Ext.trans ?_ (by assumption)))).out).mono ?_; rintro e w5 ⟨rfl, hx5⟩)
                go_ret
                exact ⟨ret_i HE8.out.symm, hx1.trans hx5⟩
  · have bne : (ne != 0) = true := by simpa using hne
    have HE2 := hidA (hE.out.trans (if_pos hne))
    clear hE hne
    go_wp2
    go_ret
    exact ⟨ret_i (by rw [HE2.out]), hx1⟩
end Go.Proofs.Ytpgdinpckolfpaa
