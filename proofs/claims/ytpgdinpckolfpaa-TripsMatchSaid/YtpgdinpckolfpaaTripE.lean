/- Contract: the reference's TripsOf: the least sums of prices by sweeps over roads. -/
import Derived.Test.YtpgdinpckolfpaaTripD
namespace Go.Proofs.Ytpgdinpckolfpaa
open Go.RowKit
attribute [local go_sem ↓] Go.wp_at_zero Go.wp_at_succ
attribute [local go_sem] run_store_float

/-- a sweep: what holds when the directed roads D are done -/
def TSd (N : Nat) (D : List (Nat × Nat × Nat)) (m : Nat) (again : Bool) (is : Nat → Bool) (v : Nat → Nat) : Prop :=
  (again = true ∧ tM is v N < m) ∨ (again = false ∧ tM is v N = m ∧ ∀ a b p, (a, b, p) ∈ D → is a = true → is b = true ∧ v b ≤ fadd (v a) p)
/-- both directions of roads -/
def dirR (L : List (Nat × Nat × Nat)) : List (Nat × Nat × Nat) := L.flatMap fun r => [(r.1, r.2.1, r.2.2), (r.2.1, r.1, r.2.2)]
theorem dirR_snoc (L : List (Nat × Nat × Nat)) (a b p : Nat) : dirR (L ++ [(a, b, p)]) = (dirR L ++ [(a, b, p)]) ++ [(b, a, p)] := by simp [dirR]
theorem dirR_mem {L : List (Nat × Nat × Nat)} {a b p : Nat} (h : TrE L a b p) : (a, b, p) ∈ dirR L := by
  unfold dirR
  rw [List.mem_flatMap]
  rcases h with h | h
  · exact ⟨_, h, by simp⟩
  · exact ⟨_, h, by simp⟩
section
variable {N src m : Nat} {l D : List (Nat × Nat × Nat)} {again : Bool} {is : Nat → Bool} {v : Nat → Nat}
theorem TSd.off (h : TSd N D m again is v) {a b p : Nat} (ha : is a = false) : TSd N (D ++ [(a, b, p)]) m again is v := by
  rcases h with h | ⟨h1, h2, h3⟩
  · exact .inl h
  · refine .inr ⟨h1, h2, fun a' b' p' hm hs => ?_⟩
    rcases List.mem_append.1 hm with h4 | h4
    · exact h3 a' b' p' h4 hs
    · simp at h4
      obtain ⟨rfl, rfl, rfl⟩ := h4
      rw [ha] at hs
      cases hs
theorem TSd.stay (h : TSd N D m again is v) (hS : TS N l src is v) {a b p : Nat} (hb : b < N) (hx : SumB (fadd (v a) p)) (hg : goesT is v b (fadd (v a) p) = false) : TSd N (D ++ [(a, b, p)]) m again is v := by
  rcases h with h | ⟨h1, h2, h3⟩
  · exact .inl h
  · refine .inr ⟨h1, h2, fun a' b' p' hm hs => ?_⟩
    rcases List.mem_append.1 hm with h4 | h4
    · exact h3 a' b' p' h4 hs
    · simp at h4
      obtain ⟨rfl, rfl, rfl⟩ := h4
      exact goesT_false hS hb hx hg
theorem TSd.put (h : TSd N D m again is v) (hS : TS N l src is v) {a b p : Nat} (hb : b < N) (hx : SumB (fadd (v a) p)) (hg : goesT is v b (fadd (v a) p) = true) (D' : List (Nat × Nat × Nat)) : TSd N D' m true (updF is b true) (updF v b (fadd (v a) p)) := by
  have h1 := hS.less hb hx hg
  rcases h with ⟨_, h⟩ | ⟨_, h2, _⟩
  · exact .inl ⟨rfl, by omega⟩
  · exact .inl ⟨rfl, by omega⟩
end
/-- the sums, and the sites that are reached, in memory -/
structure TE (w0 w : World) (go gs N : Nat) (is : Nat → Bool) (v : Nat → Nat) : Prop where
  og : Bk w go 27 (flo N v)
  eg : Bk w gs 4 (bools N is)
  b1 : w0.heap.size ≤ go
  b2 : w0.heap.size ≤ gs
  x : Ext w0 w
section
variable {w0 w : World} {go gs N : Nat} {is : Nat → Bool} {v : Nat → Nat}
theorem TE.step (h : TE w0 w go gs N is v) {w' : World} (hx : Ext w w') : TE w0 w' go gs N is v := ⟨h.og.ext hx, h.eg.ext hx, h.b1, h.b2, h.x.trans hx⟩
theorem TE.markE (h : TE w0 w go gs N is v) (k : Nat) : TE w0 (w.setCell ⟨gs, k, none⟩ (.bool true)) go gs N (updF is k true) v := by
  have e1 := Bk.set h.eg k (.bool true)
  rw [bools_set] at e1
  exact ⟨h.og.far (Bk.ne h.og h.eg (by decide)) _, e1, h.b1, h.b2, h.x.setCell (p := ⟨gs, k, none⟩) h.b2 _⟩
theorem TE.put1 (h : TE w0 w go gs N is v) (k x : Nat) : TE w0 (w.setCell ⟨go, k, none⟩ (.float .f32 x)) go gs N is (updF v k x) := by
  have e1 := Bk.set h.og k (.float .f32 x)
  rw [flo_set] at e1
  exact ⟨e1, h.eg.far (Bk.ne h.eg h.og (by decide)) _, h.b1, h.b2, h.x.setCell (p := ⟨go, k, none⟩) h.b1 _⟩
theorem TE.c1 (h : TE w0 w go gs N is v) {k : Nat} (hk : k < N) : w.cell? ⟨go, k, none⟩ = some (.float .f32 (v k)) := by rw [h.og.cell]; exact flo_get _ hk
theorem TE.c2 (h : TE w0 w go gs N is v) {k : Nat} (hk : k < N) : w.cell? ⟨gs, k, none⟩ = some (.bool (is k)) := by rw [h.eg.cell]; exact bools_get _ hk
end
set_option maxRecDepth 100000 in
set_option maxHeartbeats 12800000 in
theorem TripsOf_any (N src : Nat) (A : Option Addr) (n c : Nat) (l : List RoR) (w : World) (hn : l.length = n) (hV : Rd w A (rocells l)) (h1 : 1 ≤ N) (h24 : N ≤ 24) (hn3 : n ≤ 1000) (hl : RoOk N l) (hs : src < N) :
    Calls Try.prog 45 #[.int .i64 (N : Int), .slice A n c, .int .i64 (src : Int)] w fun e w' => ∃ go gs is v, e = .returned (.tuple #[.slice (some ⟨go, 0, none⟩) N N, .slice (some ⟨gs, 0, none⟩) N N]) ∧
      w.heap.size ≤ go ∧ w.heap.size ≤ gs ∧ Bk w' go 27 (flo N v) ∧ Bk w' gs 4 (bools N is) ∧ TLe N (plR l) src is v ∧ Ext w w' := by
  have mb := mk_bool N (by omega)
  have mf := mk_flo N (by omega)
  have Hn := hidA hn
  have HV := fun (w' : World) (h : Ext w w') => hidA (hV.ext h)
  have Hl := hidA hl
  clear hn hV hl
  go_enter Try.func45, Try.ntmps45
  go_upto_region 1 with fail
  have j0 : (0 : Int) ≤ src := by omega
  have j1 : (src : Int) < N := by omega
  go_cut [8, 9] (fun s8 s9 wx => ∃ go gs : Nat, s8 = Value.slice (some ⟨go, 0, none⟩) N N ∧ s9 = Value.slice (some ⟨gs, 0, none⟩) N N ∧ TE w wx go gs N (fun _ => false) (fun _ => 0))
  case first =>
    go_region
    all_goals
      go_wp2_with fail
      go_meet
      case rel =>
        apply Exists.intro
        apply Exists.intro
        refine ⟨rfl, rfl, ⟨?k1, ?k2, ?k5, ?k6, (by repeat (first | exact Ext.refl _ | assumption | refine Ext.setCell ?_ (by first | (simp; done) | (simp; omega)) _ | refine Ext.drewN ?_ _ | refine Ext.alloc ?_ _ | refine Ext.drew ?_ | refine Ext.trans ?_ (by assumption)))⟩⟩
        case k1 => first | (refine Bk.drew (Bk.new' ?_); (first | rfl | (simp; done))) | (refine Bk.drew ((Bk.new' ?_).alloc _); (first | rfl | (simp; done)))
        case k2 => first | (refine Bk.drew (Bk.new' ?_); (first | rfl | (simp; done))) | (refine Bk.drew ((Bk.new' ?_).alloc _); (first | rfl | (simp; done)))
        case k5 => first | exact Nat.le_refl _ | omega | (simp; done) | (simp; omega)
        case k6 => first | exact Nat.le_refl _ | omega | (simp; done) | (simp; omega)
  case rest =>
    obtain ⟨go, gs, rfl, rfl, hM⟩ := hcut
    clear mb mf
    have c0 := hM.c2 hs
    have f0 := hM.eg.frozen src
    have HM := hidA (hM.markE src)
    have HS := hidA (TS.start N (plR l) src)
    clear hM
    go_upto_region 4 with fail
    clear c0 f0
    generalize wc.setCell ⟨gs, src, none⟩ (.bool true) = w1 at *
    go_loopg [10] (tM (updF (fun _ => false) src true) (fun _ => 0) N + 1) (fun gk s10 wr => ∃ (ag : Bool) (is : Nat → Bool) (v : Nat → Nat), s10 = .bool ag ∧ TE w wr go gs N is v ∧ TS N (plR l) src is v ∧ (ag = true → tM is v N + 1 ≤ gk) ∧ (ag = false → ∀ a b p, (a, b, p) ∈ dirR (plR l) → is a = true → is b = true ∧ v b ≤ fadd (v a) p))
    case atStart => exact ⟨true, _, _, rfl, HM.out, HS.out, fun _ => Nat.le_refl _, fun h => by cases h⟩
    case round =>
      clear HM HS
      obtain ⟨ag, is, v, rfl, hM, hS, hgk, hcl⟩ := hrel
      cases ag
      · have HT := hidA (hS.least Hl.out.tr (fun a b p hi hE => hcl rfl a b p (dirR_mem hE) hi))
        have HM := hidA hM
        clear hM hS hgk hcl
        go_wp2
        go_ret2
        exact ⟨go, gs, is, v, rfl, HM.out.b1, HM.out.b2, HM.out.og, HM.out.eg, HT.out, HM.out.x⟩
      · have Hgk := hidA (hgk rfl)
        have hS0 := hidA hS
        have hM0 := hidA hM
        obtain ⟨m, hm⟩ : ∃ m, m = tM is v N := ⟨_, rfl⟩
        have hW0 : Hid (TSd N (dirR (plR (l.take 0))) m false is v) := .inr ⟨rfl, hm.symm, fun a b p h => by simp [plR, dirR] at h⟩
        rw [← hm] at Hgk
        clear hM hS hgk hcl hm
        go_upto_region 7 with fail
        go_loopw [10, 25] (fun s10 s25 wx => ∃ (j : Nat) (ag : Bool) (is : Nat → Bool) (v : Nat → Nat), j ≤ n ∧ s25 = .int .i64 j ∧ s10 = .bool ag ∧ TE w wx go gs N is v ∧ TS N (plR l) src is v ∧ TSd N (dirR (plR (l.take j))) m ag is v) (fun _ s25 _ => n - (intOf s25).toNat)
        case atStart => exact ⟨0, false, is, v, Nat.zero_le _, rfl, rfl, hM0.out, hS0.out, hW0.out⟩
        case round =>
          clear hM0 hS0 hW0
          obtain ⟨j, ag, is, v, hj, rfl, rfl, hM, hS, hW⟩ := hrel
          by_cases hjn : j < n
          · have Hjn := hidA hjn
            have hjl : j < l.length := by have := Hn.out; omega
            obtain ⟨ad, rfl, hbk, d0, d1, d2, d3⟩ := ((HV _ hM.x).out).road hjl
            have hTk := plR_take hjl
            have hMem := plR_mem hjl
            have hNN := Hl.out.nn j hjl
            obtain ⟨r, hr⟩ : ∃ r, r = l[j] := ⟨_, rfl⟩
            rw [← hr] at d0 d1 d2 d3 hTk hMem hNN
            obtain ⟨ra, rb, wA, wn, wc, p⟩ := r
            dsimp only at d0 d1 d2 d3 hTk hMem hNN
            obtain ⟨a, rfl⟩ : ∃ a : Nat, ra = a := ⟨ra.toNat, by omega⟩
            obtain ⟨b, rfl⟩ : ∃ b : Nat, rb = b := ⟨rb.toNat, by omega⟩
            rw [Int.toNat_natCast, Int.toNat_natCast] at hTk hMem
            have HTk := hidA (show dirR (plR (l.take (j + 1))) = (dirR (plR (l.take j)) ++ [(a, b, p)]) ++ [(b, a, p)] from by rw [hTk, dirR_snoc])
            have hp := (Hl.out.tr _ _ _ hMem).2.2.2
            have Hp := hidA hp
            have hj0 : (0 : Int) ≤ j := by omega
            have hj1 : (j : Int) < n := by omega
            have hj2 : (j : Int) ≤ 1000 := by omega
            have HS := hidA hS
            have HW := hidA hW
            have HMem := hidA hMem
            have haN : a < N := by omega
            have hbN : b < N := by omega
            have HaN := hidA haN
            have HbN := hidA hbN
            clear hTk hMem hNN hS hW hr hbk hj hjn hp
            go_upto_region 9 with fail
            have kR : Bk (wr.alloc (.cells #[.int .i64 (a : Int), .int .i64 (b : Int), .slice wA wn wc, .float .f32 p] 87)) wr.heap.size 87 #[.int .i64 (a : Int), .int .i64 (b : Int), .slice wA wn wc, .float .f32 p] := Bk.new' rfl
            have hM4 := hM.step ((Ext.refl wr).alloc (.cells #[.int .i64 (a : Int), .int .i64 (b : Int), .slice wA wn wc, .float .f32 p] 87))
            clear d0 d1 d2 d3 hM
            generalize wr.alloc (.cells #[.int .i64 (a : Int), .int .i64 (b : Int), .slice wA wn wc, .float .f32 p] 87) = w4 at *
            generalize wr.heap.size = ha at *
            have r0 := kR.cell 0
            have r1 := kR.cell 1
            have HM4 := hidA hM4
            clear hM4
            go_upto_region 10 with fail
            have kP : Bk (w4.alloc (.cells #[.int .i64 (a : Int), .int .i64 (b : Int), .int .i64 (b : Int), .int .i64 (a : Int)] 140)) w4.heap.size 140 #[.int .i64 (a : Int), .int .i64 (b : Int), .int .i64 (b : Int), .int .i64 (a : Int)] := Bk.new' rfl
            have hx5 := (Ext.refl w4).alloc (.cells #[.int .i64 (a : Int), .int .i64 (b : Int), .int .i64 (b : Int), .int .i64 (a : Int)] 140)
            have HM5 := hidA (HM4.out.step hx5)
            have kR5 := kR.ext hx5
            clear r0 r1 HM4 kR hx5
            generalize w4.alloc (.cells #[.int .i64 (a : Int), .int .i64 (b : Int), .int .i64 (b : Int), .int .i64 (a : Int)] 140) = w5 at *
            generalize w4.heap.size = hp at *
            go_loopw [10, 41] (fun s10 s41 wx => ∃ (t : Nat) (ag : Bool) (is : Nat → Bool) (v : Nat → Nat), t ≤ 2 ∧ s41 = .int .i64 t ∧ s10 = .bool ag ∧ TE w wx go gs N is v ∧ TS N (plR l) src is v ∧ TSd N (dirR (plR (l.take j)) ++ (if t = 0 then [] else if t = 1 then [(a, b, p)] else [(a, b, p), (b, a, p)])) m ag is v ∧ Bk wx ha 87 #[.int .i64 (a : Int), .int .i64 (b : Int), .slice wA wn wc, .float .f32 p] ∧ Bk wx hp 140 #[.int .i64 (a : Int), .int .i64 (b : Int), .int .i64 (b : Int), .int .i64 (a : Int)]) (fun _ s41 _ => 2 - (intOf s41).toNat)
            case atStart => exact ⟨0, ag, is, v, by omega, rfl, rfl, HM5.out, HS.out, by rw [if_pos rfl, List.append_nil]; exact HW.out, kR5, kP⟩
            case round =>
              clear HM5 HS HW kR5 kP
              obtain ⟨t, ag, is, v, ht, rfl, rfl, hM, hS, hW, kR, kP⟩ := hrel
              have HS := hidA hS
              clear hS
              have ht3 : t = 0 ∨ t = 1 ∨ t = 2 := by omega
              clear ht
              rcases ht3 with rfl | rfl | rfl
              · rw [if_pos rfl, List.append_nil] at hW
                have HW := hidA hW
                clear hW
                have q0 := kP.cell 0
                have q1 := kP.cell 1
                go_upto_region 12 with fail
                have kX : Bk (wr.alloc (.cells #[.int .i64 (a : Int), .int .i64 (b : Int)] 140)) wr.heap.size 140 #[.int .i64 (a : Int), .int .i64 (b : Int)] := Bk.new' rfl
                have hx6 := (Ext.refl wr).alloc (.cells #[.int .i64 (a : Int), .int .i64 (b : Int)] 140)
                have HM6 := hidA (hM.step hx6)
                have kR6 := kR.ext hx6
                have kP6 := kP.ext hx6
                clear q0 q1 hM kR kP hx6
                generalize wr.alloc (.cells #[.int .i64 (a : Int), .int .i64 (b : Int)] 140) = w6 at *
                generalize wr.heap.size = hb at *
                have x0 := kX.cell 0
                have x1 := kX.cell 1
                have r3 := kR6.cell 3
                have cx := HM6.out.c2 HaN.out
                have cy := HM6.out.c2 HbN.out
                have vx := HM6.out.c1 HaN.out
                have vy := HM6.out.c1 HbN.out
                have ia0 : (0 : Int) ≤ a := by omega
                have ia1 : (a : Int) < N := by have := HaN.out; omega
                have ib0 : (0 : Int) ≤ b := by omega
                have ib1 : (b : Int) < N := by have := HbN.out; omega
                obtain ⟨hadd, hsx, _⟩ := sumT (HS.out.ob a HaN.out) Hp.out
                have hltv := sum_lt hsx (HS.out.ob b HbN.out)
                have hrun := fun (w : World) => run_float_arith (P := Try.prog) w .add 27 .f32 _ _ _ hadd
                cases hsX : is a
                · rw [hsX] at cx
                  have HW2 := hidA (HW.out.off (b := b) (p := p) hsX)
                  clear hsX hadd hsx hltv
                  go_quiet (fail)
                  have hxn : Ext w6 (w6.drewN nq) := (by repeat (first | exact Ext.refl _ | assumption | refine Ext.setCell ?_ (by first | (simp; done) | (simp; omega)) _ | refine Ext.drewN ?_ _ | refine Ext.alloc ?_ _ | refine Ext.drew ?_ | refine Ext.trans ?_ (by assumption)))
                  have HM7 := hidA (HM6.out.step hxn)
                  have kR7 := kR6.ext hxn
                  have kP7 := kP6.ext hxn
                  clear x0 x1 r3 cx cy vx vy HM6 kR6 kP6 kX hxn
                  generalize w6.drewN nq = w7 at *
                  go_wp2
                  go_roundw
                  case rel => exact ⟨1, ag, is, v, by omega, (by first | rfl | go_num), rfl, HM7.out, HS.out, by rw [if_neg (by decide), if_pos rfl]; exact HW2.out, kR7, kP7⟩
                  case measure => decide
                · rw [hsX] at cx
                  cases hsY : is b
                  · rw [hsY] at cy
                    have hg : goesT is v b (fadd (v a) p) = true := by simp [goesT, hsY]
                    have HW2 := hidA (HW.out.put HS.out HbN.out hsx hg (dirR (plR (l.take j)) ++ (if 1 = 0 then [] else if 1 = 1 then [(a, b, p)] else [(a, b, p), (b, a, p)])))
                    have HS2 := hidA (HS.out.put Hl.out.tr hsX (.inl HMem.out) hg)
                    clear hsX hsY hadd hsx hltv hg
                    generalize fadd (v a) p = z at *
                    go_quiet (fail)
                    have hxn : Ext w6 (w6.drewN nq) := (by repeat (first | exact Ext.refl _ | assumption | refine Ext.setCell ?_ (by first | (simp; done) | (simp; omega)) _ | refine Ext.drewN ?_ _ | refine Ext.alloc ?_ _ | refine Ext.drew ?_ | refine Ext.trans ?_ (by assumption)))
                    have HM7 := hidA (HM6.out.step hxn)
                    have kR7 := kR6.ext hxn
                    have kP7 := kP6.ext hxn
                    have kX7 := kX.ext hxn
                    clear x0 x1 r3 cx cy vx vy HM6 kR6 kP6 kX hxn
                    generalize w6.drewN nq = w7 at *
                    have x0 := kX7.cell 0
                    have x1 := kX7.cell 1
                    have r3 := kR7.cell 3
                    have vx := HM7.out.c1 HaN.out
                    have vy := HM7.out.c1 HbN.out
                    have cy := HM7.out.c2 HbN.out
                    have z1 := HM7.out.og.frozen b
                    have z2 := HM7.out.eg.frozen b
                    have m1 := HM7.out.put1 b z
                    have m2 := HM7.out.markE b
                    have cy' := m1.c2 HbN.out
                    have vx' := m2.c1 HaN.out
                    have vy' := m2.c1 HbN.out
                    have z2' := m1.eg.frozen b
                    have z1' := m2.og.frozen b
                    have kXa := kX7.far (p := ⟨go, b, none⟩) (Bk.ne kX7 HM7.out.og (by decide)) (.float .f32 z)
                    have kXb := kX7.far (p := ⟨gs, b, none⟩) (Bk.ne kX7 HM7.out.eg (by decide)) (.bool true)
                    have kRa := kR7.far (p := ⟨go, b, none⟩) (Bk.ne kR7 HM7.out.og (by decide)) (.float .f32 z)
                    have kRb := kR7.far (p := ⟨gs, b, none⟩) (Bk.ne kR7 HM7.out.eg (by decide)) (.bool true)
                    have kPa := kP7.far (p := ⟨go, b, none⟩) (Bk.ne kP7 HM7.out.og (by decide)) (.float .f32 z)
                    have kRc := kRa.far (p := ⟨gs, b, none⟩) (Bk.ne kRa m1.eg (by decide)) (.bool true)
                    have kPc := kPa.far (p := ⟨gs, b, none⟩) (Bk.ne kPa m1.eg (by decide)) (.bool true)
                    have xa0 := kXa.cell 0
                    have xa1 := kXa.cell 1
                    have xb0 := kXb.cell 0
                    have xb1 := kXb.cell 1
                    have ra3 := kRa.cell 3
                    have rb3 := kRb.cell 3
                    have hne : go ≠ gs := Bk.ne HM7.out.og HM7.out.eg (by decide)
                    have HM8 := hidA (m1.markE b)
                    have KRc := hidA kRc
                    have KPc := hidA kPc
                    clear kRc kPc kRa kRb kPa kXa kXb m1 m2 kX7 kR7 kP7 HM7
                    go_upto_region 13 with fail
                    go_region
                    clear x0 x1 r3 vx vy cy z1 z2 cy' vx' vy' z2' z1' xa0 xa1 xb0 xb1 ra3 rb3
                    go_wp2
                    go_roundw
                    case rel => exact ⟨1, true, _, _, by omega, (by first | rfl | go_num), rfl, HM8.out.step (by repeat (first | exact Ext.refl _ | assumption | refine Ext.setCell ?_ (by first | (simp; done) | (simp; omega)) _ | refine Ext.drewN ?_ _ | refine Ext.alloc ?_ _ | refine Ext.drew ?_ | refine Ext.trans ?_ (by assumption))), HS2.out, HW2.out, KRc.out.ext (by repeat (first | exact Ext.refl _ | assumption | refine Ext.setCell ?_ (by first | (simp; done) | (simp; omega)) _ | refine Ext.drewN ?_ _ | refine Ext.alloc ?_ _ | refine Ext.drew ?_ | refine Ext.trans ?_ (by assumption))), KPc.out.ext (by repeat (first | exact Ext.refl _ | assumption | refine Ext.setCell ?_ (by first | (simp; done) | (simp; omega)) _ | refine Ext.drewN ?_ _ | refine Ext.alloc ?_ _ | refine Ext.drew ?_ | refine Ext.trans ?_ (by assumption)))⟩
                    case measure => decide
                  · rw [hsY] at cy
                    cases hq : lt (fadd (v a) p) (v b)
                    · have hg : goesT is v b (fadd (v a) p) = false := by simp [goesT, hsY, hq]
                      have hq' : (FloatKind.f32.format.order (fadd (v a) p) (v b) == some .lt) = false := hq
                      have HW2 := hidA (HW.out.stay HS.out HbN.out hsx hg)
                      clear hsX hsY hadd hsx hltv hg hq
                      generalize fadd (v a) p = z at *
                      go_quiet (fail)
                      have hxn : Ext w6 (w6.drewN nq) := (by repeat (first | exact Ext.refl _ | assumption | refine Ext.setCell ?_ (by first | (simp; done) | (simp; omega)) _ | refine Ext.drewN ?_ _ | refine Ext.alloc ?_ _ | refine Ext.drew ?_ | refine Ext.trans ?_ (by assumption)))
                      have HM7 := hidA (HM6.out.step hxn)
                      have kR7 := kR6.ext hxn
                      have kP7 := kP6.ext hxn
                      clear x0 x1 r3 cx cy vx vy HM6 kR6 kP6 kX hxn
                      generalize w6.drewN nq = w7 at *
                      go_wp2
                      go_roundw
                      case rel => exact ⟨1, ag, is, v, by omega, (by first | rfl | go_num), rfl, HM7.out, HS.out, by rw [if_neg (by decide), if_pos rfl]; exact HW2.out, kR7, kP7⟩
                      case measure => decide
                    · have hg : goesT is v b (fadd (v a) p) = true := by simp [goesT, hsY, hq]
                      have hq' : (FloatKind.f32.format.order (fadd (v a) p) (v b) == some .lt) = true := hq
                      have HW2 := hidA (HW.out.put HS.out HbN.out hsx hg (dirR (plR (l.take j)) ++ (if 1 = 0 then [] else if 1 = 1 then [(a, b, p)] else [(a, b, p), (b, a, p)])))
                      have HS2 := hidA (HS.out.put Hl.out.tr hsX (.inl HMem.out) hg)
                      clear hsX hsY hadd hsx hltv hg hq
                      generalize fadd (v a) p = z at *
                      go_quiet (fail)
                      have hxn : Ext w6 (w6.drewN nq) := (by repeat (first | exact Ext.refl _ | assumption | refine Ext.setCell ?_ (by first | (simp; done) | (simp; omega)) _ | refine Ext.drewN ?_ _ | refine Ext.alloc ?_ _ | refine Ext.drew ?_ | refine Ext.trans ?_ (by assumption)))
                      have HM7 := hidA (HM6.out.step hxn)
                      have kR7 := kR6.ext hxn
                      have kP7 := kP6.ext hxn
                      have kX7 := kX.ext hxn
                      clear x0 x1 r3 cx cy vx vy HM6 kR6 kP6 kX hxn
                      generalize w6.drewN nq = w7 at *
                      have x0 := kX7.cell 0
                      have x1 := kX7.cell 1
                      have r3 := kR7.cell 3
                      have vx := HM7.out.c1 HaN.out
                      have vy := HM7.out.c1 HbN.out
                      have cy := HM7.out.c2 HbN.out
                      have z1 := HM7.out.og.frozen b
                      have z2 := HM7.out.eg.frozen b
                      have m1 := HM7.out.put1 b z
                      have m2 := HM7.out.markE b
                      have cy' := m1.c2 HbN.out
                      have vx' := m2.c1 HaN.out
                      have vy' := m2.c1 HbN.out
                      have z2' := m1.eg.frozen b
                      have z1' := m2.og.frozen b
                      have kXa := kX7.far (p := ⟨go, b, none⟩) (Bk.ne kX7 HM7.out.og (by decide)) (.float .f32 z)
                      have kXb := kX7.far (p := ⟨gs, b, none⟩) (Bk.ne kX7 HM7.out.eg (by decide)) (.bool true)
                      have kRa := kR7.far (p := ⟨go, b, none⟩) (Bk.ne kR7 HM7.out.og (by decide)) (.float .f32 z)
                      have kRb := kR7.far (p := ⟨gs, b, none⟩) (Bk.ne kR7 HM7.out.eg (by decide)) (.bool true)
                      have kPa := kP7.far (p := ⟨go, b, none⟩) (Bk.ne kP7 HM7.out.og (by decide)) (.float .f32 z)
                      have kRc := kRa.far (p := ⟨gs, b, none⟩) (Bk.ne kRa m1.eg (by decide)) (.bool true)
                      have kPc := kPa.far (p := ⟨gs, b, none⟩) (Bk.ne kPa m1.eg (by decide)) (.bool true)
                      have xa0 := kXa.cell 0
                      have xa1 := kXa.cell 1
                      have xb0 := kXb.cell 0
                      have xb1 := kXb.cell 1
                      have ra3 := kRa.cell 3
                      have rb3 := kRb.cell 3
                      have hne : go ≠ gs := Bk.ne HM7.out.og HM7.out.eg (by decide)
                      have HM8 := hidA (m1.markE b)
                      have KRc := hidA kRc
                      have KPc := hidA kPc
                      clear kRc kPc kRa kRb kPa kXa kXb m1 m2 kX7 kR7 kP7 HM7
                      go_upto_region 13 with fail
                      go_region
                      clear x0 x1 r3 vx vy cy z1 z2 cy' vx' vy' z2' z1' xa0 xa1 xb0 xb1 ra3 rb3
                      go_wp2
                      go_roundw
                      case rel => exact ⟨1, true, _, _, by omega, (by first | rfl | go_num), rfl, HM8.out.step (by repeat (first | exact Ext.refl _ | assumption | refine Ext.setCell ?_ (by first | (simp; done) | (simp; omega)) _ | refine Ext.drewN ?_ _ | refine Ext.alloc ?_ _ | refine Ext.drew ?_ | refine Ext.trans ?_ (by assumption))), HS2.out, HW2.out, KRc.out.ext (by repeat (first | exact Ext.refl _ | assumption | refine Ext.setCell ?_ (by first | (simp; done) | (simp; omega)) _ | refine Ext.drewN ?_ _ | refine Ext.alloc ?_ _ | refine Ext.drew ?_ | refine Ext.trans ?_ (by assumption))), KPc.out.ext (by repeat (first | exact Ext.refl _ | assumption | refine Ext.setCell ?_ (by first | (simp; done) | (simp; omega)) _ | refine Ext.drewN ?_ _ | refine Ext.alloc ?_ _ | refine Ext.drew ?_ | refine Ext.trans ?_ (by assumption)))⟩
                      case measure => decide
              · rw [if_neg (by decide), if_pos rfl] at hW
                have HW := hidA hW
                clear hW
                have q0 := kP.cell 2
                have q1 := kP.cell 3
                go_upto_region 12 with fail
                have kX : Bk (wr.alloc (.cells #[.int .i64 (b : Int), .int .i64 (a : Int)] 140)) wr.heap.size 140 #[.int .i64 (b : Int), .int .i64 (a : Int)] := Bk.new' rfl
                have hx6 := (Ext.refl wr).alloc (.cells #[.int .i64 (b : Int), .int .i64 (a : Int)] 140)
                have HM6 := hidA (hM.step hx6)
                have kR6 := kR.ext hx6
                have kP6 := kP.ext hx6
                clear q0 q1 hM kR kP hx6
                generalize wr.alloc (.cells #[.int .i64 (b : Int), .int .i64 (a : Int)] 140) = w6 at *
                generalize wr.heap.size = hb at *
                have x0 := kX.cell 0
                have x1 := kX.cell 1
                have r3 := kR6.cell 3
                have cx := HM6.out.c2 HbN.out
                have cy := HM6.out.c2 HaN.out
                have vx := HM6.out.c1 HbN.out
                have vy := HM6.out.c1 HaN.out
                have ia0 : (0 : Int) ≤ a := by omega
                have ia1 : (a : Int) < N := by have := HaN.out; omega
                have ib0 : (0 : Int) ≤ b := by omega
                have ib1 : (b : Int) < N := by have := HbN.out; omega
                obtain ⟨hadd, hsx, _⟩ := sumT (HS.out.ob b HbN.out) Hp.out
                have hltv := sum_lt hsx (HS.out.ob a HaN.out)
                have hrun := fun (w : World) => run_float_arith (P := Try.prog) w .add 27 .f32 _ _ _ hadd
                cases hsX : is b
                · rw [hsX] at cx
                  have HW2 := hidA (HW.out.off (b := a) (p := p) hsX)
                  clear hsX hadd hsx hltv
                  go_quiet (fail)
                  have hxn : Ext w6 (w6.drewN nq) := (by repeat (first | exact Ext.refl _ | assumption | refine Ext.setCell ?_ (by first | (simp; done) | (simp; omega)) _ | refine Ext.drewN ?_ _ | refine Ext.alloc ?_ _ | refine Ext.drew ?_ | refine Ext.trans ?_ (by assumption)))
                  have HM7 := hidA (HM6.out.step hxn)
                  have kR7 := kR6.ext hxn
                  have kP7 := kP6.ext hxn
                  clear x0 x1 r3 cx cy vx vy HM6 kR6 kP6 kX hxn
                  generalize w6.drewN nq = w7 at *
                  go_wp2
                  go_roundw
                  case rel => exact ⟨2, ag, is, v, by omega, (by first | rfl | go_num), rfl, HM7.out, HS.out, by rw [if_neg (by decide), if_neg (by decide)]; have h := HW2.out; rw [List.append_assoc] at h; exact h, kR7, kP7⟩
                  case measure => decide
                · rw [hsX] at cx
                  cases hsY : is a
                  · rw [hsY] at cy
                    have hg : goesT is v a (fadd (v b) p) = true := by simp [goesT, hsY]
                    have HW2 := hidA (HW.out.put HS.out HaN.out hsx hg (dirR (plR (l.take j)) ++ (if 2 = 0 then [] else if 2 = 1 then [(a, b, p)] else [(a, b, p), (b, a, p)])))
                    have HS2 := hidA (HS.out.put Hl.out.tr hsX (.inr HMem.out) hg)
                    clear hsX hsY hadd hsx hltv hg
                    generalize fadd (v b) p = z at *
                    go_quiet (fail)
                    have hxn : Ext w6 (w6.drewN nq) := (by repeat (first | exact Ext.refl _ | assumption | refine Ext.setCell ?_ (by first | (simp; done) | (simp; omega)) _ | refine Ext.drewN ?_ _ | refine Ext.alloc ?_ _ | refine Ext.drew ?_ | refine Ext.trans ?_ (by assumption)))
                    have HM7 := hidA (HM6.out.step hxn)
                    have kR7 := kR6.ext hxn
                    have kP7 := kP6.ext hxn
                    have kX7 := kX.ext hxn
                    clear x0 x1 r3 cx cy vx vy HM6 kR6 kP6 kX hxn
                    generalize w6.drewN nq = w7 at *
                    have x0 := kX7.cell 0
                    have x1 := kX7.cell 1
                    have r3 := kR7.cell 3
                    have vx := HM7.out.c1 HbN.out
                    have vy := HM7.out.c1 HaN.out
                    have cy := HM7.out.c2 HaN.out
                    have z1 := HM7.out.og.frozen a
                    have z2 := HM7.out.eg.frozen a
                    have m1 := HM7.out.put1 a z
                    have m2 := HM7.out.markE a
                    have cy' := m1.c2 HaN.out
                    have vx' := m2.c1 HbN.out
                    have vy' := m2.c1 HaN.out
                    have z2' := m1.eg.frozen a
                    have z1' := m2.og.frozen a
                    have kXa := kX7.far (p := ⟨go, a, none⟩) (Bk.ne kX7 HM7.out.og (by decide)) (.float .f32 z)
                    have kXb := kX7.far (p := ⟨gs, a, none⟩) (Bk.ne kX7 HM7.out.eg (by decide)) (.bool true)
                    have kRa := kR7.far (p := ⟨go, a, none⟩) (Bk.ne kR7 HM7.out.og (by decide)) (.float .f32 z)
                    have kRb := kR7.far (p := ⟨gs, a, none⟩) (Bk.ne kR7 HM7.out.eg (by decide)) (.bool true)
                    have kPa := kP7.far (p := ⟨go, a, none⟩) (Bk.ne kP7 HM7.out.og (by decide)) (.float .f32 z)
                    have kRc := kRa.far (p := ⟨gs, a, none⟩) (Bk.ne kRa m1.eg (by decide)) (.bool true)
                    have kPc := kPa.far (p := ⟨gs, a, none⟩) (Bk.ne kPa m1.eg (by decide)) (.bool true)
                    have xa0 := kXa.cell 0
                    have xa1 := kXa.cell 1
                    have xb0 := kXb.cell 0
                    have xb1 := kXb.cell 1
                    have ra3 := kRa.cell 3
                    have rb3 := kRb.cell 3
                    have hne : go ≠ gs := Bk.ne HM7.out.og HM7.out.eg (by decide)
                    have HM8 := hidA (m1.markE a)
                    have KRc := hidA kRc
                    have KPc := hidA kPc
                    clear kRc kPc kRa kRb kPa kXa kXb m1 m2 kX7 kR7 kP7 HM7
                    go_upto_region 13 with fail
                    go_region
                    clear x0 x1 r3 vx vy cy z1 z2 cy' vx' vy' z2' z1' xa0 xa1 xb0 xb1 ra3 rb3
                    go_wp2
                    go_roundw
                    case rel => exact ⟨2, true, _, _, by omega, (by first | rfl | go_num), rfl, HM8.out.step (by repeat (first | exact Ext.refl _ | assumption | refine Ext.setCell ?_ (by first | (simp; done) | (simp; omega)) _ | refine Ext.drewN ?_ _ | refine Ext.alloc ?_ _ | refine Ext.drew ?_ | refine Ext.trans ?_ (by assumption))), HS2.out, HW2.out, KRc.out.ext (by repeat (first | exact Ext.refl _ | assumption | refine Ext.setCell ?_ (by first | (simp; done) | (simp; omega)) _ | refine Ext.drewN ?_ _ | refine Ext.alloc ?_ _ | refine Ext.drew ?_ | refine Ext.trans ?_ (by assumption))), KPc.out.ext (by repeat (first | exact Ext.refl _ | assumption | refine Ext.setCell ?_ (by first | (simp; done) | (simp; omega)) _ | refine Ext.drewN ?_ _ | refine Ext.alloc ?_ _ | refine Ext.drew ?_ | refine Ext.trans ?_ (by assumption)))⟩
                    case measure => decide
                  · rw [hsY] at cy
                    cases hq : lt (fadd (v b) p) (v a)
                    · have hg : goesT is v a (fadd (v b) p) = false := by simp [goesT, hsY, hq]
                      have hq' : (FloatKind.f32.format.order (fadd (v b) p) (v a) == some .lt) = false := hq
                      have HW2 := hidA (HW.out.stay HS.out HaN.out hsx hg)
                      clear hsX hsY hadd hsx hltv hg hq
                      generalize fadd (v b) p = z at *
                      go_quiet (fail)
                      have hxn : Ext w6 (w6.drewN nq) := (by repeat (first | exact Ext.refl _ | assumption | refine Ext.setCell ?_ (by first | (simp; done) | (simp; omega)) _ | refine Ext.drewN ?_ _ | refine Ext.alloc ?_ _ | refine Ext.drew ?_ | refine Ext.trans ?_ (by assumption)))
                      have HM7 := hidA (HM6.out.step hxn)
                      have kR7 := kR6.ext hxn
                      have kP7 := kP6.ext hxn
                      clear x0 x1 r3 cx cy vx vy HM6 kR6 kP6 kX hxn
                      generalize w6.drewN nq = w7 at *
                      go_wp2
                      go_roundw
                      case rel => exact ⟨2, ag, is, v, by omega, (by first | rfl | go_num), rfl, HM7.out, HS.out, by rw [if_neg (by decide), if_neg (by decide)]; have h := HW2.out; rw [List.append_assoc] at h; exact h, kR7, kP7⟩
                      case measure => decide
                    · have hg : goesT is v a (fadd (v b) p) = true := by simp [goesT, hsY, hq]
                      have hq' : (FloatKind.f32.format.order (fadd (v b) p) (v a) == some .lt) = true := hq
                      have HW2 := hidA (HW.out.put HS.out HaN.out hsx hg (dirR (plR (l.take j)) ++ (if 2 = 0 then [] else if 2 = 1 then [(a, b, p)] else [(a, b, p), (b, a, p)])))
                      have HS2 := hidA (HS.out.put Hl.out.tr hsX (.inr HMem.out) hg)
                      clear hsX hsY hadd hsx hltv hg hq
                      generalize fadd (v b) p = z at *
                      go_quiet (fail)
                      have hxn : Ext w6 (w6.drewN nq) := (by repeat (first | exact Ext.refl _ | assumption | refine Ext.setCell ?_ (by first | (simp; done) | (simp; omega)) _ | refine Ext.drewN ?_ _ | refine Ext.alloc ?_ _ | refine Ext.drew ?_ | refine Ext.trans ?_ (by assumption)))
                      have HM7 := hidA (HM6.out.step hxn)
                      have kR7 := kR6.ext hxn
                      have kP7 := kP6.ext hxn
                      have kX7 := kX.ext hxn
                      clear x0 x1 r3 cx cy vx vy HM6 kR6 kP6 kX hxn
                      generalize w6.drewN nq = w7 at *
                      have x0 := kX7.cell 0
                      have x1 := kX7.cell 1
                      have r3 := kR7.cell 3
                      have vx := HM7.out.c1 HbN.out
                      have vy := HM7.out.c1 HaN.out
                      have cy := HM7.out.c2 HaN.out
                      have z1 := HM7.out.og.frozen a
                      have z2 := HM7.out.eg.frozen a
                      have m1 := HM7.out.put1 a z
                      have m2 := HM7.out.markE a
                      have cy' := m1.c2 HaN.out
                      have vx' := m2.c1 HbN.out
                      have vy' := m2.c1 HaN.out
                      have z2' := m1.eg.frozen a
                      have z1' := m2.og.frozen a
                      have kXa := kX7.far (p := ⟨go, a, none⟩) (Bk.ne kX7 HM7.out.og (by decide)) (.float .f32 z)
                      have kXb := kX7.far (p := ⟨gs, a, none⟩) (Bk.ne kX7 HM7.out.eg (by decide)) (.bool true)
                      have kRa := kR7.far (p := ⟨go, a, none⟩) (Bk.ne kR7 HM7.out.og (by decide)) (.float .f32 z)
                      have kRb := kR7.far (p := ⟨gs, a, none⟩) (Bk.ne kR7 HM7.out.eg (by decide)) (.bool true)
                      have kPa := kP7.far (p := ⟨go, a, none⟩) (Bk.ne kP7 HM7.out.og (by decide)) (.float .f32 z)
                      have kRc := kRa.far (p := ⟨gs, a, none⟩) (Bk.ne kRa m1.eg (by decide)) (.bool true)
                      have kPc := kPa.far (p := ⟨gs, a, none⟩) (Bk.ne kPa m1.eg (by decide)) (.bool true)
                      have xa0 := kXa.cell 0
                      have xa1 := kXa.cell 1
                      have xb0 := kXb.cell 0
                      have xb1 := kXb.cell 1
                      have ra3 := kRa.cell 3
                      have rb3 := kRb.cell 3
                      have hne : go ≠ gs := Bk.ne HM7.out.og HM7.out.eg (by decide)
                      have HM8 := hidA (m1.markE a)
                      have KRc := hidA kRc
                      have KPc := hidA kPc
                      clear kRc kPc kRa kRb kPa kXa kXb m1 m2 kX7 kR7 kP7 HM7
                      go_upto_region 13 with fail
                      go_region
                      clear x0 x1 r3 vx vy cy z1 z2 cy' vx' vy' z2' z1' xa0 xa1 xb0 xb1 ra3 rb3
                      go_wp2
                      go_roundw
                      case rel => exact ⟨2, true, _, _, by omega, (by first | rfl | go_num), rfl, HM8.out.step (by repeat (first | exact Ext.refl _ | assumption | refine Ext.setCell ?_ (by first | (simp; done) | (simp; omega)) _ | refine Ext.drewN ?_ _ | refine Ext.alloc ?_ _ | refine Ext.drew ?_ | refine Ext.trans ?_ (by assumption))), HS2.out, HW2.out, KRc.out.ext (by repeat (first | exact Ext.refl _ | assumption | refine Ext.setCell ?_ (by first | (simp; done) | (simp; omega)) _ | refine Ext.drewN ?_ _ | refine Ext.alloc ?_ _ | refine Ext.drew ?_ | refine Ext.trans ?_ (by assumption))), KPc.out.ext (by repeat (first | exact Ext.refl _ | assumption | refine Ext.setCell ?_ (by first | (simp; done) | (simp; omega)) _ | refine Ext.drewN ?_ _ | refine Ext.alloc ?_ _ | refine Ext.drew ?_ | refine Ext.trans ?_ (by assumption)))⟩
                      case measure => decide
              · rw [if_neg (by decide), if_neg (by decide)] at hW
                have HW2 := hidA (show TSd N (dirR (plR (l.take (j + 1)))) m ag is v from by rw [HTk.out, List.append_assoc]; exact hW)
                have HM := hidA hM
                clear hW hM kR kP
                go_wp2
                go_roundw
                case rel => exact ⟨j + 1, ag, is, v, Hjn.out, (by first | rfl | go_num), rfl, HM.out, HS.out, HW2.out⟩
                case measure => exact nxt_c Hjn.out
          · obtain rfl : j = n := by omega
            rw [List.take_of_length_le (by have := Hn.out; omega)] at hW
            have hag : ag = true → tM is v N + 1 ≤ m := fun h => by
              rcases hW with ⟨_, h2⟩ | ⟨h2, _⟩
              · omega
              · rw [h] at h2; cases h2
            have hcl : ag = false → ∀ a b p, (a, b, p) ∈ dirR (plR l) → is a = true → is b = true ∧ v b ≤ fadd (v a) p := fun h => by
              rcases hW with ⟨h2, _⟩ | ⟨_, _, h3⟩
              · rw [h] at h2; cases h2
              · exact h3
            have Hag := hidA hag
            have Hcl := hidA hcl
            have HM := hidA hM
            have HS := hidA hS
            clear hM hS hW hag hcl hj hjn
            go_wp2_with fail
            go_roundg m
            case measure => have := Hgk.out; omega
            case rel => exact ⟨ag, is, v, rfl, HM.out, HS.out, Hag.out, Hcl.out⟩
end Go.Proofs.Ytpgdinpckolfpaa
