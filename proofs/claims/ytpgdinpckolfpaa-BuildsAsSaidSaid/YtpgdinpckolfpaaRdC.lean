/- Contract: ground.each at whatever closure. -/
import Derived.Test.YtpgdinpckolfpaaRdB
namespace Go.Proofs.Ytpgdinpckolfpaa
open Go.RowKit
attribute [local go_sem ↓] Go.wp_at_zero Go.wp_at_succ

theorem run_max_flo {x y : Nat} {o : Ordering} (h : FloatKind.f32.format.order x y = some o) (ts : Array TypeId) (t : TypeId) (w : World) :
    (Builtin.max_ ts t #[.float .f32 x, .float .f32 y]).run Try.prog w = .ok (.float .f32 (maxF x y)) w := by
  have e : (Builtin.max_ ts t #[.float .f32 x, .float .f32 y]) = Builtin.max2 (.float .f32 x) (.float .f32 y) := by
    simp [Builtin.max_]
  rw [e]
  unfold Builtin.max2 maxF
  simp only [h]
  cases o <;> rfl
theorem edD_none {R : RlR} {V : Nat → Nat} {Wn Hn k d m n top : Nat} (h : besK Wn Hn k d n = none) : edD R V Wn Hn k d (m + 1) n top = [] := by
  rw [edD, h]
theorem edD_no {R : RlR} {V : Nat → Nat} {Wn Hn k d m n top t : Nat} (h : besK Wn Hn k d n = some t) (hc : costF R V k t d n top = none) : edD R V Wn Hn k d (m + 1) n top = edD R V Wn Hn k d m (n + 1) (maxF top (V t)) := by
  rw [edD, h]
  simp only [hc, List.nil_append]
theorem edD_yes {R : RlR} {V : Nat → Nat} {Wn Hn k d m n top t v : Nat} (h : besK Wn Hn k d n = some t) (hc : costF R V k t d n top = some v) : edD R V Wn Hn k d (m + 1) n top = (t, v) :: edD R V Wn Hn k d m (n + 1) (maxF top (V t)) := by
  rw [edD, h]
  simp only [hc, List.cons_append, List.nil_append]

/-- what holds ahead of the n-th step in a direction -/
def EachI (Inv : List (Nat × Nat) → World → Prop) (R : RlR) (l : List Nat) (Wn Hn k d hb : Nat) (G : Array Value) (s7 s8 : Value) (wr : World) : Prop :=
  ∃ n top : Nat, 1 ≤ n ∧ n ≤ spanN R + 1 ∧ s8 = .int .i64 n ∧ s7 = .float .f32 top ∧ Bd 20 top ∧ Inv (edD R (fun j => l.getD j 0) Wn Hn k d (spanN R + 1 - n) n top ++ edM R (fun j => l.getD j 0) Wn Hn k (7 - d)) wr ∧ Bk wr hb 115 G

set_option maxRecDepth 100000 in
set_option maxHeartbeats 6400000 in
/-- each calls a closure for each step, in order: L is what is left -/
theorem each_any (fid : Nat) (caps : Array Value) (henter : ∀ args w, (callFunc fid args).run Try.prog w = .ok (.enter fid args) w) (X Y : Int) (Wn Hn : Nat) (A : Option Addr) (N c : Nat) (R : RlR) (C : Option Addr) (m cc k : Nat) (l : List Nat)
    (hr : Reg X Y Wn Hn) (hN : N = Wn * Hn) (hR : RlOk R N) (hl : l.length = N) (hh : ∀ j, j < N → Bd 20 (l.getD j 0)) (hk : k < N)
    (Inv : List (Nat × Nat) → World → Prop) (hext : ∀ L w w', Inv L w → Ext w w' → Inv L w') (hrd : ∀ L w, Inv L w → Rd w A (flt l) ∧ CoR w C m R.co)
    (hstep : ∀ t v L w, Inv ((t, v) :: L) w → t < N → Bd 56 v → 0 < valI v → Calls Try.prog fid (#[.int .i64 t, .float .f32 v] ++ caps) w fun e w' => e = .returned (.tuple #[]) ∧ Inv L w' ∧ ∀ g cs, Bk w g 115 cs → Bk w' g 115 cs)
    (w : World) (h0 : Inv (edK R (fun j => l.getD j 0) Wn Hn k) w) :
    Calls Try.prog 125 #[.agg (gcells X Y Wn Hn A N c R C m cc), .int .i64 k, .func (.func fid) #[] caps] w fun e w' => e = .returned (.tuple #[]) ∧ Inv [] w' := by
  have HB := fun (d n : Nat) (w : World) (h1 : d < 8) (h2 : n ≤ 12) => hidA (bes_any X Y Wn Hn A N c R C m cc k d n w hr (by rw [← hN]; exact hk) h1 h2)
  have HC := fun (d n t top : Nat) (w : World) (h1 : d < 8) (h2 : 1 ≤ n) (h3 : n ≤ 12) (ht : t < N) (hI : Rd w A (flt l) ∧ CoR w C m R.co) => hidA (cost_any X Y Wn Hn A N c R C m cc k t d n top l w hR hl hI.1 hh hI.2 hk ht h1 h2 h3)
  have HS := hidA hstep
  have HX := hidA hext
  have HD := hidA hrd
  have HR := hidA hR
  have HH := hidA hh
  have HN := hidA hN
  have Hl := hidA hl
  have Hk := hidA hk
  have hmx : (if (R.sp : Int) < 1 then (1 : Int) else (R.sp : Int)) = (spanN R : Int) := by unfold spanN; split <;> omega
  have Hsp := hidA (show 1 ≤ spanN R ∧ spanN R ≤ 12 from by have := hR.sp; unfold spanN; omega)
  clear hstep hext hrd hR hh hN hl hk hr
  unfold gcells at *
  go_enter Try.func125, Try.ntmps125
  go_wp2
  have kR : Bk (w.alloc (.cells #[.int .i64 X, .int .i64 Y, .int .i64 (Wn : Int), .int .i64 (Hn : Int), .slice A N c, .float .f32 R.gr, .float .f32 R.wt, .float .f32 R.br, .float .f32 R.de, .int .i64 (R.sp : Int), .slice C m cc] 115)) w.heap.size 115 #[.int .i64 X, .int .i64 Y, .int .i64 (Wn : Int), .int .i64 (Hn : Int), .slice A N c, .float .f32 R.gr, .float .f32 R.wt, .float .f32 R.br, .float .f32 R.de, .int .i64 (R.sp : Int), .slice C m cc] := Bk.new' rfl
  have hI0 := HX.out _ _ _ h0 ((Ext.refl w).alloc (.cells #[.int .i64 X, .int .i64 Y, .int .i64 (Wn : Int), .int .i64 (Hn : Int), .slice A N c, .float .f32 R.gr, .float .f32 R.wt, .float .f32 R.br, .float .f32 R.de, .int .i64 (R.sp : Int), .slice C m cc] 115))
  generalize w.alloc (.cells #[.int .i64 X, .int .i64 Y, .int .i64 (Wn : Int), .int .i64 (Hn : Int), .slice A N c, .float .f32 R.gr, .float .f32 R.wt, .float .f32 R.br, .float .f32 R.de, .int .i64 (R.sp : Int), .slice C m cc] 115) = w0 at *
  generalize w.heap.size = hb at *
  clear h0
  go_loopw [13] (fun s13 wr => ∃ d : Nat, d ≤ 8 ∧ s13 = .int .i64 d ∧ Inv (edM R (fun j => l.getD j 0) Wn Hn k (8 - d)) wr ∧ Bk wr hb 115 #[.int .i64 X, .int .i64 Y, .int .i64 (Wn : Int), .int .i64 (Hn : Int), .slice A N c, .float .f32 R.gr, .float .f32 R.wt, .float .f32 R.br, .float .f32 R.de, .int .i64 (R.sp : Int), .slice C m cc]) (fun s13 _ => 8 - (intOf s13).toNat)
  case atStart => exact ⟨0, by omega, rfl, hI0, kR⟩
  case round =>
    clear hI0 kR
    obtain ⟨d, hd, rfl, hI, kR⟩ := hrel
    by_cases hd8 : d < 8
    · have hI1 : Inv (edD R (fun j => l.getD j 0) Wn Hn k d (spanN R + 1 - 1) 1 3380609024 ++ edM R (fun j => l.getD j 0) Wn Hn k (7 - d)) wr := by
        have e : 8 - d = (7 - d) + 1 := by omega
        rw [e, edM, show 7 - (7 - d) = d by omega] at hI
        rw [Nat.add_sub_cancel]
        exact hI
      clear hI
      have hb2 : Bd 20 3380609024 := by unfold Bd; decide
      go_wp2
      have e14 : decide ((d : Int) < 8) = true := by simp; omega
      simp only [e14]
      obtain ⟨wo, hwo⟩ : ∃ wo, wo = wr := ⟨_, rfl⟩
      go_loopw [7, 8] (fun s7 s8 wr => EachI Inv R l Wn Hn k d hb #[.int .i64 X, .int .i64 Y, .int .i64 (Wn : Int), .int .i64 (Hn : Int), .slice A N c, .float .f32 R.gr, .float .f32 R.wt, .float .f32 R.br, .float .f32 R.de, .int .i64 (R.sp : Int), .slice C m cc] s7 s8 wr) (fun _ s8 _ => spanN R + 1 - (intOf s8).toNat)
      case atStart => exact ⟨1, _, by omega, by have := Hsp.out; omega, rfl, rfl, hb2, hI1, kR⟩
      case round =>
        clear hI1 kR
        obtain ⟨n, top, hn1, hn2, rfl, rfl, htop, hI, kR⟩ := hrel
        have g9 := kR.cell 9
        by_cases hns : n ≤ spanN R
        · have hc1 : (n : Int) ≤ (spanN R : Int) := by omega
          have h12 : n ≤ 12 := by have := Hsp.out; omega
          have em : spanN R + 1 - n = (spanN R + 1 - (n + 1)) + 1 := by omega
          rw [em] at hI
          have c0 := kR.cell 0
          have c1 := kR.cell 1
          have c2 := kR.cell 2
          have c3 := kR.cell 3
          have c4 := kR.cell 4
          have c5 := kR.cell 5
          have c6 := kR.cell 6
          have c7 := kR.cell 7
          have c8 := kR.cell 8
          have c10 := kR.cell 10
          have HBq := fun w => HB d n w hd8 h12
          cases hb : besK Wn Hn k d n with
          | none =>
            rw [edD_none hb] at hI
            have Hb := hidA hb
            rw [hb] at HBq
            clear hb
            simp only [nbV, Option.getD_none, Option.isSome_none] at HBq
            go_wp2_with (go_at_call 105; refine ((HBq _).out).mono ?_; rintro e w3 ⟨rfl, hx3⟩)
            go_roundw
            case rel => exact ⟨d + 1, by omega, by go_num, by rw [show 8 - (d + 1) = 7 - d by omega]; exact HX.out _ _ _ hI hx3, kR.ext hx3⟩
            case measure => simp [intOf]; omega
          | some t =>
            have htN : t < N := by rw [HN.out]; exact besK_lt hb
            have Hb := hidA hb
            rw [hb] at HBq
            clear hb
            simp only [nbV, Option.getD_some, Option.isSome_some] at HBq
            have HCq := fun (w : World) hI' => HC d n t top w hd8 hn1 h12 htN hI'
            go_upto_region 11 with (first | (go_at_call 105; refine ((HBq _).out).mono ?_; rintro e w3 ⟨rfl, hx3⟩; have hI3 := HX.out _ _ _ hI hx3; have kR3 := kR.ext hx3; have e0 := kR3.cell 0; have e1 := kR3.cell 1; have e2 := kR3.cell 2; have e3 := kR3.cell 3; have e4 := kR3.cell 4; have e5 := kR3.cell 5; have e6 := kR3.cell 6; have e7 := kR3.cell 7; have e8 := kR3.cell 8; have e9 := kR3.cell 9; have e10 := kR3.cell 10) | (go_at_call 106; refine ((HCq _ (HD.out _ _ hI3)).out).mono ?_; rintro e w4 ⟨v, b, rfl, hcf, hx4⟩))
            have hI4 := HX.out _ _ _ hI3 hx4
            have kR4 := kR3.ext hx4
            have hok := fun hc => costF_ok (V := fun j => l.getD j 0) (k := k) (t := t) (d := d) (n := n) (top := top) (c := v) HR.out (HH.out k Hk.out) (HH.out t htN) htN hn1 h12 hc
            clear e0 e1 e2 e3 e4 e5 e6 e7 e8 e9 e10 c0 c1 c2 c3 c4 c5 c6 c7 c8 c10 g9 kR kR3 hI hI3 HBq HCq hx3 hx4
            cases b
            · rw [edD_no Hb.out hcf] at hI4
              clear hcf hok
              have hvt := HH.out t htN
              obtain ⟨ad, hA, hbk, cT⟩ := flt_at (HD.out _ _ hI4).1 (k := t) (by rw [Hl.out]; exact htN)
              subst hA
              obtain ⟨vt, hv0⟩ : ∃ vt, vt = l.getD t 0 := ⟨_, rfl⟩
              rw [← hv0] at hvt cT
              have hord : FloatKind.f32.format.order top vt = some (compare (valI top) (valI vt)) := by
                have h := ord_valI (bd_Fin htop (by omega)) (bd_Fin hvt (by omega))
                rw [← ord_def] at h
                exact h
              have qm := fun (ts : Array TypeId) (ty : TypeId) (w : World) => run_max_flo hord ts ty w
              have f4 := kR4.cell 4
              have t0 : (0 : Int) ≤ t := by omega
              have t1 : (t : Int) < N := by omega
              have Hbm := hidA (max_bd htop hvt)
              have Hv0 := hidA hv0
              have Hns := hidA (show n + 1 ≤ spanN R + 1 by omega)
              have Hd8 := hidA hd8
              have Hn1 := hidA hn1
              have Hn2 := hidA hn2
              clear hord hvt hv0 htop hn1 hn2 hns em hc1 hd htN
              go_wp2
              go_roundw
              case rel => exact ⟨n + 1, maxF top vt, by omega, Hns.out, by go_num, rfl, Hbm.out, by rw [Hv0.out]; exact hI4, kR4⟩
              case measure => have := Hns.out; simp [intOf]; omega
            · rw [edD_yes Hb.out hcf] at hI4
              obtain ⟨o1, o2⟩ := hok hcf
              have Hcall := hidA (HS.out t v _ _ hI4 htN o1 (by omega))
              clear hcf hok hI4 o1 o2
              go_wp2_with fail
              refine Hcall.out.mono ?_
              rintro e w5 ⟨rfl, hI5, hkp⟩
              have kR5 := hkp _ _ kR4
              clear hkp kR4 Hcall
              have hvt := HH.out t htN
              obtain ⟨ad, hA, hbk, cT⟩ := flt_at (HD.out _ _ hI5).1 (k := t) (by rw [Hl.out]; exact htN)
              subst hA
              obtain ⟨vt, hv0⟩ : ∃ vt, vt = l.getD t 0 := ⟨_, rfl⟩
              rw [← hv0] at hvt cT
              have hord : FloatKind.f32.format.order top vt = some (compare (valI top) (valI vt)) := by
                have h := ord_valI (bd_Fin htop (by omega)) (bd_Fin hvt (by omega))
                rw [← ord_def] at h
                exact h
              have qm := fun (ts : Array TypeId) (ty : TypeId) (w : World) => run_max_flo hord ts ty w
              have f4 := kR5.cell 4
              have t0 : (0 : Int) ≤ t := by omega
              have t1 : (t : Int) < N := by omega
              have Hbm := hidA (max_bd htop hvt)
              have Hv0 := hidA hv0
              have Hns := hidA (show n + 1 ≤ spanN R + 1 by omega)
              have Hd8 := hidA hd8
              have Hn1 := hidA hn1
              have Hn2 := hidA hn2
              clear hord hvt hv0 htop hn1 hn2 hns em hc1 hd htN
              go_wp2
              go_roundw
              case rel => exact ⟨n + 1, maxF top vt, by omega, Hns.out, by go_num, rfl, Hbm.out, by rw [Hv0.out]; exact hI5, kR5⟩
              case measure => have := Hns.out; simp [intOf]; omega
        · obtain rfl : n = spanN R + 1 := by omega
          have hc1 : ¬ ((spanN R + 1 : Nat) : Int) ≤ (spanN R : Int) := by omega
          rw [Nat.sub_self, edD] at hI
          go_wp2
          go_roundw
          case rel => exact ⟨d + 1, by omega, by go_num, by rw [show 8 - (d + 1) = 7 - d by omega]; exact hI, kR⟩
          case measure => simp [intOf]; omega
    · obtain rfl : d = 8 := by omega
      go_wp2
      refine bodyPost_end (results_none Try.results125 _ _ _) rfl ?_
      exact ⟨rfl, hI⟩
end Go.Proofs.Ytpgdinpckolfpaa
