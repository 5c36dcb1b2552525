/- Contract: the reference's LeastOf: least prices by sweeps, tight steps by rounds. -/
import Derived.Test.YtpgdinpckolfpaaRwAC
import Derived.Deep.AppendLies
import Derived.Deep.Cut
namespace Go.Proofs.Ytpgdinpckolfpaa
open Go.RowKit
attribute [local go_sem ↓] Go.wp_at_zero Go.wp_at_succ
attribute [local go_sem] run_store_float

theorem OwnE.low {w : World} {a b : Nat} {v : Value} {xs : List (Nat × Nat × Nat)} (h : OwnE w b v xs) (hab : a ≤ b) : OwnE w a v xs := by
  refine ⟨h.1, ?_⟩
  rcases h.2 with h1 | ⟨g, cap, cur, hv, hb, hr⟩
  · exact .inl h1
  · exact .inr ⟨g, cap, cur, hv, Nat.le_trans hab hb, hr⟩
/-- what LeastOf holds in memory -/
structure LM (W0 w : World) (F : Array Value) (hf hp ho hi : Nat) (px py : Int) (N : Nat) (seen : Nat → Bool) (out : Nat → Nat) (v : Value) (L : List (Nat × Nat × Nat)) : Prop where
  kf : Bk w hf 26 F
  kp : Bk w hp 32 #[.int .i64 px, .int .i64 py]
  og : Bk w ho 27 (flo N out)
  eg : Bk w hi 4 (bools N seen)
  own : OwnE w W0.heap.size v L
  ext : Ext W0 w
  b1 : W0.heap.size ≤ ho
  b2 : W0.heap.size ≤ hi
section
variable {W0 w : World} {F : Array Value} {hf hp ho hi hg : Nat} {px py : Int} {N : Nat} {seen : Nat → Bool} {out : Nat → Nat} {v : Value} {L : List (Nat × Nat × Nat)} {H : Nat → Int}
theorem LM.step (h : LM W0 w F hf hp ho hi px py N seen out v L) {w' : World} (hx : Ext w w') : LM W0 w' F hf hp ho hi px py N seen out v L :=
  ⟨h.kf.ext hx, h.kp.ext hx, h.og.ext hx, h.eg.ext hx, h.own.ext hx, h.ext.trans hx, h.b1, h.b2⟩
theorem LM.put (h : LM W0 w F hf hp ho hi px py N seen out v L) (k x : Nat) : LM W0 ((w.setCell ⟨ho, k, none⟩ (.float .f32 x)).setCell ⟨hi, k, none⟩ (.bool true)) F hf hp ho hi px py N (updF seen k true) (updF out k x) v L := by
  have e1 := Bk.set h.og k (.float .f32 x)
  rw [flo_set] at e1
  have f1 : ∀ {g : Nat} {t : TypeId} {cs : Array Value}, Bk w g t cs → g ≠ ho → Bk (w.setCell ⟨ho, k, none⟩ (.float .f32 x)) g t cs := fun hb hn => hb.far hn _
  have eg := f1 h.eg (Bk.ne h.eg h.og (by decide))
  have e2 := Bk.set eg k (.bool true)
  rw [bools_set] at e2
  have f2 : ∀ {g : Nat} {t : TypeId} {cs : Array Value}, Bk (w.setCell ⟨ho, k, none⟩ (.float .f32 x)) g t cs → g ≠ hi → Bk ((w.setCell ⟨ho, k, none⟩ (.float .f32 x)).setCell ⟨hi, k, none⟩ (.bool true)) g t cs := fun hb hn => hb.far hn _
  have own := (h.own.set (i := k) h.og (by decide) (.float .f32 x)).set (i := k) eg (by decide) (.bool true)
  exact ⟨f2 (f1 h.kf (Bk.ne h.kf h.og (by decide))) (Bk.ne h.kf h.eg (by decide)), f2 (f1 h.kp (Bk.ne h.kp h.og (by decide))) (Bk.ne h.kp h.eg (by decide)), f2 e1 (Bk.ne h.og h.eg (by decide)), e2, own, (h.ext.setCell h.b1 _).setCell h.b2 _, h.b1, h.b2⟩
/-- and the numbers of steps -/
structure LS (W0 w : World) (F : Array Value) (hf hp ho hi hg : Nat) (px py : Int) (N : Nat) (seen : Nat → Bool) (out : Nat → Nat) (H : Nat → Int) (v : Value) (L : List (Nat × Nat × Nat)) : Prop where
  lm : LM W0 w F hf hp ho hi px py N seen out v L
  ig : Bk w hg 3 (intB N H)
  b3 : W0.heap.size ≤ hg
theorem LS.step (h : LS W0 w F hf hp ho hi hg px py N seen out H v L) {w' : World} (hx : Ext w w') : LS W0 w' F hf hp ho hi hg px py N seen out H v L := ⟨h.lm.step hx, h.ig.ext hx, h.b3⟩
theorem LS.put (h : LS W0 w F hf hp ho hi hg px py N seen out H v L) (i : Nat) (x : Int) : LS W0 (w.setCell ⟨hg, i, none⟩ (.int .i64 x)) F hf hp ho hi hg px py N seen out (updF H i x) v L := by
  have e1 := Bk.set h.ig i (.int .i64 x)
  rw [intB_set] at e1
  have m := h.lm
  exact ⟨⟨m.kf.far (Bk.ne m.kf h.ig (by decide)) _, m.kp.far (Bk.ne m.kp h.ig (by decide)) _, m.og.far (Bk.ne m.og h.ig (by decide)) _, m.eg.far (Bk.ne m.eg h.ig (by decide)) _, m.own.set h.ig (by decide) _, m.ext.setCell h.b3 _, m.b1, m.b2⟩, e1, h.b3⟩
end
/-- whether a step can lower nothing -/
def clE (seen : Nat → Bool) (out : Nat → Nat) (e : Nat × Nat × Nat) : Prop := seen e.1 = true → goesR seen out e.2.1 (fadd (out e.1) e.2.2) = false
theorem getD_mem3 {L : List (Nat × Nat × Nat)} {i : Nat} (h : i < L.length) : L.getD i (0, 0, 0) ∈ L := by
  rw [show L.getD i (0, 0, 0) = L[i] by simp [List.getD_eq_getElem?_getD, h]]
  exact List.getElem_mem h
theorem take_snoc3 {L : List (Nat × Nat × Nat)} {i : Nat} (h : i < L.length) : L.take (i + 1) = L.take i ++ [L.getD i (0, 0, 0)] := by
  rw [List.take_add_one]
  congr 1
  simp [List.getD_eq_getElem?_getD, h]
theorem cl_all {seen : Nat → Bool} {out : Nat → Nat} {L : List (Nat × Nat × Nat)} (h : ∀ j, j < L.length → clE seen out (L.getD j (0, 0, 0))) : ∀ e, e ∈ L → clE seen out e := fun e he => by
  obtain ⟨i, hi, rfl⟩ := List.mem_iff_getElem.1 he
  have := h i hi
  rw [show L.getD i (0, 0, 0) = L[i] by simp [List.getD_eq_getElem?_getD, hi]] at this
  exact this
theorem max3 {a : Nat} (h : a ≤ 100000) : a + 1 ≤ maxLen ∧ (a + 1) * 24 ≤ 140737488355328 := by unfold maxLen; omega
theorem ed_bd {N a b : Nat} (hN : N ≤ 60) (ha : a ≤ N) (hb : b ≤ N) {x y : Nat} (h1 : x ≤ a * N) (h2 : y ≤ b) : x + y ≤ 100000 := by
  have := Nat.mul_le_mul ha hN
  have : N * 60 ≤ 60 * 60 := Nat.mul_le_mul_right 60 hN
  omega
theorem pK {X Y : Int} {Wn k : Nat} : placeK X Y (Wn : Int) k = (X + ((k % Wn : Nat) : Int), Y + ((k / Wn : Nat) : Int)) := by simp [placeK]
theorem neg_fun {k : Nat} : updF (fun j => if j < k then (-1 : Int) else 0) k (-1) = fun j => if j < k + 1 then -1 else 0 := by
  funext j
  unfold updF
  by_cases h1 : j = k
  · rw [if_pos h1, if_pos (by omega)]
  · rw [if_neg h1]
    dsimp only
    by_cases h2 : j < k
    · rw [if_pos h2, if_pos (by omega)]
    · rw [if_neg h2, if_neg (by omega)]
theorem neg_end {N src : Nat} : intB N (updF (fun j => if j < N then (-1 : Int) else 0) src 0) = intB N (updF (fun _ => -1) src 0) := by
  unfold intB
  congr 1
  apply List.map_congr_left
  intro j hj
  have := List.mem_range.1 hj
  unfold updF
  split
  · rfl
  · dsimp only
    rw [if_pos this]
theorem nx_k {k n : Nat} (h : k < n) : n - (intOf (.int .i64 ((k : Int) + 1))).toNat < n - (intOf (.int .i64 (k : Int))).toNat := by
  simp [intOf]
  omega
theorem neg_zero : (fun j : Nat => if j < 0 then (-1 : Int) else 0) = fun _ => 0 := by funext j; simp
theorem OwnE.rd {w : World} {base : Nat} {A : Option Addr} {n c : Nat} {q : List (Nat × Nat × Nat)} (h : OwnE w base (.slice A n c) q) (hn : n = q.length) : Rd w A (edv q) := by
  subst hn
  exact Rd.of_own h
/-- what LeastOf returns -/
def LeastPost (R : RlR) (l : List Nat) (Wn Hn N src : Nat) (w : World) (e : Ending) (w' : World) : Prop := ∃ (ho hi hg : Nat) (seen : Nat → Bool) (out : Nat → Nat) (H : Nat → Int), e = .returned (.tuple #[.slice (some ⟨ho, 0, none⟩) N N, .slice (some ⟨hi, 0, none⟩) N N, .slice (some ⟨hg, 0, none⟩) N N]) ∧
  Bk w' ho 27 (flo N out) ∧ Bk w' hi 4 (bools N seen) ∧ Bk w' hg 3 (intB N H) ∧ PrOk N (edA R (fun j => l.getD j 0) Wn Hn N) src seen out ∧ HopOk N (edA R (fun j => l.getD j 0) Wn Hn N) src (tgt out) H ∧ Ext w w'
set_option maxRecDepth 100000 in
set_option maxHeartbeats 6400000 in
theorem LeastOf_any (X Y : Int) (Wn Hn : Nat) (A : Option Addr) (N c : Nat) (R : RlR) (C : Option Addr) (m cc src : Nat) (l : List Nat) (w : World)
    (hr : Reg X Y Wn Hn) (hN : N = Wn * Hn) (hR : RlOk R N) (hl : l.length = N) (hh : ∀ j, j < N → Bd 20 (l.getD j 0)) (hs : src < N) (hN60 : N ≤ 60) (hV : Rd w A (flt l)) (hC : CoR w C m R.co) :
    Calls Try.prog 29 #[.agg #[.int .i64 X, .int .i64 Y, .int .i64 (Wn : Int), .int .i64 (Hn : Int), .slice A N c], .agg #[.float .f32 R.gr, .float .f32 R.wt, .float .f32 R.br, .float .f32 R.de, .int .i64 (R.sp : Int), .slice C m cc], .agg #[.int .i64 (X + ((src % Wn : Nat) : Int)), .int .i64 (Y + ((src / Wn : Nat) : Int))]] w fun e w' => LeastPost R l Wn Hn N src w e w' := by
  have HPt := fun (a : Nat) (w : World) (h : a < N) => hidA (show Calls Try.prog 73 #[.agg #[.int .i64 X, .int .i64 Y, .int .i64 (Wn : Int), .int .i64 (Hn : Int)], .int .i64 a] w fun e w' => e = .returned (.agg #[.int .i64 (X + ((a % Wn : Nat) : Int)), .int .i64 (Y + ((a / Wn : Nat) : Int))]) ∧ Ext w w' from by
    have h9 := pointR_any X Y Wn Hn a w hr.ok (by omega)
    rw [pK] at h9
    exact h9)
  have HTo := fun (a b : Nat) (w' : World) (h : Ext w w') (ha : a < N) (hb : b < N) => hidA (Toll_any X Y Wn Hn A N c R C m cc a b l w' hr hN hR hl hh ha hb (hV.ext h) (hC.ext h))
  unfold stV at HTo
  have HCl := fun (w : World) => hidA (cellK hr hN hs w)
  have mf := mk_flo N (by omega)
  have mb := mk_bool N (by omega)
  have mi := mk_int N (by omega)
  obtain ⟨E, hEe⟩ : ∃ E, E = edA R (fun j => l.getD j 0) Wn Hn N := ⟨_, rfl⟩
  have HE := hidA (show EdOk N E from by rw [hEe]; exact edA_ok hR hN hh)
  have HLe := hidA (fun (a b d : Nat) => show (a, b, d) ∈ edG R (fun j => l.getD j 0) Wn Hn N N ↔ a < N ∧ (b, d) ∈ E a from by rw [hEe]; exact edG_ed hr.w1 hN (edA_ok hR hN hh))
  have HEe := hidA hEe
  obtain ⟨ti, hi0, hz0, hz1, hz2⟩ := info_parts infoEdge
  obtain ⟨px, hpx⟩ : ∃ px, px = X + ((src % Wn : Nat) : Int) := ⟨_, rfl⟩
  obtain ⟨py, hpy⟩ : ∃ py, py = Y + ((src / Wn : Nat) : Int) := ⟨_, rfl⟩
  rw [← hpx, ← hpy] at HCl ⊢
  obtain ⟨S, hS⟩ : ∃ S, S = stepF R (fun j => l.getD j 0) Wn Hn := ⟨_, rfl⟩
  have HSe := hidA hS
  rw [← hS] at HTo
  have HgB := hidA (fun (a b : Nat) => show edB R (fun j => l.getD j 0) Wn Hn a (b + 1) = edB R (fun j => l.getD j 0) Wn Hn a b ++ (match S a b with | some d => [(a, b, d)] | none => []) from by rw [hS]; rfl)
  have HgG := hidA (fun (a : Nat) => show edG R (fun j => l.getD j 0) Wn Hn N (a + 1) = edG R (fun j => l.getD j 0) Wn Hn N a ++ edB R (fun j => l.getD j 0) Wn Hn a N from rfl)
  have HlG := hidA (fun (a b : Nat) (ha : a ≤ N) (hb : b ≤ N) => show (edG R (fun j => l.getD j 0) Wn Hn N a ++ edB R (fun j => l.getD j 0) Wn Hn a b).length ≤ 100000 from by rw [List.length_append]; exact ed_bd hN60 ha hb (edG_len a) (edB_len a b))
  have HB0 := hidA (fun (a : Nat) => show edB R (fun j => l.getD j 0) Wn Hn a 0 = [] from rfl)
  have HG0 := hidA (show edG R (fun j => l.getD j 0) Wn Hn N 0 = [] from rfl)
  have HlN := hidA (show (edG R (fun j => l.getD j 0) Wn Hn N N).length ≤ 100000 from by have h := ed_bd (x := (edG R (fun j => l.getD j 0) Wn Hn N N).length) (y := 0) hN60 (Nat.le_refl N) (Nat.zero_le N) (edG_len N) (Nat.le_refl 0); omega)
  generalize edG R (fun j => l.getD j 0) Wn Hn N = gG at *
  generalize edB R (fun j => l.getD j 0) Wn Hn = gB at *
  have hsN : (src : Int) < N := by omega
  have hs0 : (0 : Int) ≤ src := by omega
  have Hs := hidA hs
  clear hr hN hR hl hh hs hEe hpx hpy hS
  go_enter Try.func29, Try.ntmps29
  go_upto_region 1 with fail
  obtain ⟨w0, hw0⟩ : ∃ w0, w0 = (((w.alloc (.cells #[.int .i64 X, .int .i64 Y, .int .i64 (Wn : Int), .int .i64 (Hn : Int), .slice A N c] 26)).alloc (.cells #[.float .f32 R.gr, .float .f32 R.wt, .float .f32 R.br, .float .f32 R.de, .int .i64 (R.sp : Int), .slice C m cc] 30)).alloc (.cells #[.int .i64 px, .int .i64 py] 32)) := ⟨_, rfl⟩
  have kF : Bk w0 w.heap.size 26 #[.int .i64 X, .int .i64 Y, .int .i64 (Wn : Int), .int .i64 (Hn : Int), .slice A N c] := by rw [hw0]; exact ((Bk.new' rfl).alloc _).alloc _
  have kR : Bk w0 (w.heap.size + 1) 30 #[.float .f32 R.gr, .float .f32 R.wt, .float .f32 R.br, .float .f32 R.de, .int .i64 (R.sp : Int), .slice C m cc] := by rw [hw0]; exact (Bk.new' (by simp)).alloc _
  have kP : Bk w0 (w.heap.size + 1 + 1) 32 #[.int .i64 px, .int .i64 py] := by rw [hw0]; exact Bk.new' (by simp)
  have hx0 : Ext w w0 := by rw [hw0]; exact (((Ext.refl w).alloc _).alloc _).alloc _
  rw [← hw0]
  clear hw0
  have hsz0 := hx0.size
  generalize hgp : w.heap.size + 1 + 1 = hp at *
  generalize hgr : w.heap.size + 1 = hr at *
  generalize hgf : w.heap.size = hf at *
  have Hgf := hidA hgf
  clear hgf hgr hgp
  have c4 := kF.cell 4
  have c4a := fun o => (kF.alloc o).cell 4
  have c4b := fun o o' => ((kF.alloc o).alloc o').cell 4
  go_cut [9, 10] (fun s9 s10 wx => ∃ ho hi : Nat, s9 = Value.slice (some ⟨ho, 0, none⟩) N N ∧ s10 = Value.slice (some ⟨hi, 0, none⟩) N N ∧ Bk wx ho 27 (flo N fun _ => 0) ∧ Bk wx hi 4 (bools N fun _ => false) ∧ w0.heap.size ≤ ho ∧ w0.heap.size ≤ hi ∧ Ext w0 wx)
  case first =>
    go_region
    all_goals
      go_wp2_with fail
      go_meet
      case rel =>
        apply Exists.intro
        apply Exists.intro
        refine ⟨rfl, rfl, ?k1, ?k2, ?k3, ?k4, (by repeat (first | exact Ext.refl _ | assumption | refine Ext.setCell ?_ (by first | (simp; done) | (simp; omega)) _ | refine Ext.drewN ?_ _ | refine Ext.alloc ?_ _ | refine Ext.drew ?_ | refine Ext.trans ?_ (by assumption)))⟩
        case k1 => first | exact Bk.drew (Bk.new' (by simp)) | exact Bk.drew ((Bk.new' (by simp)).alloc _) | exact Bk.drewN (Bk.new' (by simp)) _ | exact Bk.drewN ((Bk.new' (by simp)).alloc _) _
        case k2 => first | exact Bk.drew (Bk.new' (by simp)) | exact Bk.drew ((Bk.new' (by simp)).alloc _) | exact Bk.drewN (Bk.new' (by simp)) _ | exact Bk.drewN ((Bk.new' (by simp)).alloc _) _
        case k3 => omega
        case k4 => omega
  case rest =>
    obtain ⟨ho, hi, rfl, rfl, kO, kI, l1, l2, hx1⟩ := hcut
    have kF1 := kF.ext hx1
    have kR1 := kR.ext hx1
    have kP1 := kP.ext hx1
    have hxw := hx0.trans hx1
    have hlo : w.heap.size ≤ ho := by have := Hgf.out; omega
    have hli : w.heap.size ≤ hi := by have := Hgf.out; omega
    have Hlo := hidA hlo
    have Hli := hidA hli
    clear c4 c4a c4b kF kR kP hx0 hx1 l1 l2 hsz0 mf mb hlo hli
    generalize hgc : wc = wv at *
    clear hgc
    have c0 := kF1.cell 0
    have c1 := kF1.cell 1
    have c2 := kF1.cell 2
    have c3 := kF1.cell 3
    have p0 := kP1.cell 0
    have p1 := kP1.cell 1
    have s0 : ∀ w', Ext wv w' → w'.cell? ⟨hi, src, none⟩ = some (.bool false) := fun w' h => by rw [(kI.ext h).cell]; exact bools_get _ Hs.out
    have f0 : ∀ w', Ext wv w' → w'.frozen? ⟨hi, src, none⟩ = false := fun w' h => (kI.ext h).frozen src
    have d0 : ∀ w', Ext wv w' → w'.cell? ⟨hf, 0, none⟩ = some (.int .i64 X) := fun w' h => (kF1.ext h).cell 0
    go_upto_region 3 with (go_at_call 66; refine ((HCl _).out).mono ?_; rintro e wx ⟨rfl, hx1⟩)
    clear s0 f0 d0 c0 c1 c2 c3 p0 p1
    have kI2 := (kI.ext hx1).set src (.bool true)
    rw [bools_set] at kI2
    obtain ⟨w1, hw1⟩ : ∃ w1, w1 = wx.setCell ⟨hi, src, none⟩ (.bool true) := ⟨_, rfl⟩
    have kF2 : Bk w1 hf 26 #[.int .i64 X, .int .i64 Y, .int .i64 (Wn : Int), .int .i64 (Hn : Int), .slice A N c] := by rw [hw1]; exact (kF1.ext hx1).far (Bk.ne (kF1.ext hx1) (kI.ext hx1) (by decide)) _
    have kR2 : Bk w1 hr 30 #[.float .f32 R.gr, .float .f32 R.wt, .float .f32 R.br, .float .f32 R.de, .int .i64 (R.sp : Int), .slice C m cc] := by rw [hw1]; exact (kR1.ext hx1).far (Bk.ne (kR1.ext hx1) (kI.ext hx1) (by decide)) _
    have kP2 : Bk w1 hp 32 #[.int .i64 px, .int .i64 py] := by rw [hw1]; exact (kP1.ext hx1).far (Bk.ne (kP1.ext hx1) (kI.ext hx1) (by decide)) _
    have kO2 : Bk w1 ho 27 (flo N fun _ => 0) := by rw [hw1]; exact (kO.ext hx1).far (Bk.ne (kO.ext hx1) (kI.ext hx1) (by decide)) _
    have hxw2 : Ext w w1 := by rw [hw1]; exact (hxw.trans hx1).setCell Hli.out _
    rw [← hw1] at kI2 ⊢
    have HxW := hidA hxw2
    clear hw1 hx1 kI kF1 kR1 kP1 kO hxw hxw2
    have c4 := kF2.cell 4
    go_upto_region 5 with fail
    clear c4
    go_loopw [11, 44] (fun s11 s44 wr => ∃ a : Nat, a ≤ N ∧ s44 = .int .i64 a ∧ OwnE wr w1.heap.size s11 (gG a) ∧ Ext w1 wr) (fun _ s44 _ => N - (intOf s44).toNat)
    case atStart => exact ⟨0, Nat.zero_le _, rfl, by rw [HG0.out]; exact World.ownsRow_nil _ _ _ _, Ext.refl _⟩
    case round =>
      obtain ⟨a, ha, rfl, hO, hx⟩ := hrel
      by_cases haN : a < N
      · have HaN := hidA haN
        have ai0 : (0 : Int) ≤ a := by omega
        have ai1 : (a : Int) < N := by omega
        have c4 : ∀ w', Ext wr w' → w'.cell? ⟨hf, 4, none⟩ = some (.slice A N c) := fun w' h => (kF2.ext (hx.trans h)).cell 4
        have c4' := c4 _ (Ext.refl _)
        clear c4
        go_upto_region 8 with fail
        clear c4'
        go_loopw [11, 50] (fun s11 s50 wz => ∃ b : Nat, b ≤ N ∧ s50 = .int .i64 b ∧ OwnE wz w1.heap.size s11 (gG a ++ gB a b) ∧ Ext w1 wz) (fun _ s50 _ => N - (intOf s50).toNat)
        case atStart => exact ⟨0, Nat.zero_le _, rfl, by rw [HB0.out, List.append_nil]; exact hO, hx⟩
        case round =>
          clear hO hx
          obtain ⟨b, hb, rfl, hO, hx⟩ := hrel
          by_cases hbN : b < N
          · have HbN := hidA hbN
            have bi0 : (0 : Int) ≤ b := by omega
            have bi1 : (b : Int) < N := by omega
            have HT1 := fun (w' : World) (h : Ext w w') => HTo a b w' h HaN.out hbN
            have HPa := fun (w : World) => HPt a w HaN.out
            have HPb := fun (w : World) => HPt b w hbN
            have Hlen := hidA (HlG.out a b (Nat.le_of_lt HaN.out) hb)
            have Hgb := hidA (HgB.out a b)
            generalize X + ((a % Wn : Nat) : Int) = ax at *
            generalize Y + ((a / Wn : Nat) : Int) = ay at *
            generalize X + ((b % Wn : Nat) : Int) = bx at *
            generalize Y + ((b / Wn : Nat) : Int) = by_ at *
            go_upto_region 10 with fail
            have hxq : Ext w wr := HxW.out.trans hx
            have t0 : ∀ w', Ext wr w' → w'.cell? ⟨hf, 0, none⟩ = some (.int .i64 X) := fun w' h => (kF2.ext (hx.trans h)).cell 0
            have t1 : ∀ w', Ext wr w' → w'.cell? ⟨hf, 1, none⟩ = some (.int .i64 Y) := fun w' h => (kF2.ext (hx.trans h)).cell 1
            have t2 : ∀ w', Ext wr w' → w'.cell? ⟨hf, 2, none⟩ = some (.int .i64 (Wn : Int)) := fun w' h => (kF2.ext (hx.trans h)).cell 2
            have t3 : ∀ w', Ext wr w' → w'.cell? ⟨hf, 3, none⟩ = some (.int .i64 (Hn : Int)) := fun w' h => (kF2.ext (hx.trans h)).cell 3
            have t4 : ∀ w', Ext wr w' → w'.cell? ⟨hf, 4, none⟩ = some (.slice A N c) := fun w' h => (kF2.ext (hx.trans h)).cell 4
            have r0 : ∀ w', Ext wr w' → w'.cell? ⟨hr, 0, none⟩ = some (.float .f32 R.gr) := fun w' h => (kR2.ext (hx.trans h)).cell 0
            have r1 : ∀ w', Ext wr w' → w'.cell? ⟨hr, 1, none⟩ = some (.float .f32 R.wt) := fun w' h => (kR2.ext (hx.trans h)).cell 1
            have r2 : ∀ w', Ext wr w' → w'.cell? ⟨hr, 2, none⟩ = some (.float .f32 R.br) := fun w' h => (kR2.ext (hx.trans h)).cell 2
            have r3 : ∀ w', Ext wr w' → w'.cell? ⟨hr, 3, none⟩ = some (.float .f32 R.de) := fun w' h => (kR2.ext (hx.trans h)).cell 3
            have r4 : ∀ w', Ext wr w' → w'.cell? ⟨hr, 4, none⟩ = some (.int .i64 (R.sp : Int)) := fun w' h => (kR2.ext (hx.trans h)).cell 4
            have r5 : ∀ w', Ext wr w' → w'.cell? ⟨hr, 5, none⟩ = some (.slice C m cc) := fun w' h => (kR2.ext (hx.trans h)).cell 5
            obtain ⟨w4, hw4⟩ : ∃ w4, w4 = wr := ⟨_, rfl⟩
            rw [← hw4] at t0 t1 t2 t3 t4 r0 r1 r2 r3 r4 r5 hxq hx hO ⊢
            clear hw4
            refine wp_region_noPanic ?_
            refine wp_region_held_drew (S := fun w' => Ext w4 w') (by kernel_rfl) ?_ (fun hHeld => ?_)
            · (repeat (first | exact Ext.refl _ | assumption | refine Ext.setCell ?_ (by first | (simp; done) | (simp; omega)) _ | refine Ext.drewN ?_ _ | refine Ext.alloc ?_ _ | refine Ext.drew ?_ | refine Ext.trans ?_ (by assumption)))
            refine wpAnyH_take (i := 0) (oi := ?o1x0) (v := ?v1x0) ?hi1x0 (by kernel_rfl) ?hf1x0 ?hr1x0 (fun _ _ _ h => h) ?hy1x0 (by assumption) ?rest1x0
            case hi1x0 => (simp only [List.getElem?_toArray, List.getElem?_cons_zero]; exact rfl)
            case hf1x0 => kernel_rfl
            case hr1x0 => kernel_rfl
            case hy1x0 => (refine Or.inl ⟨by rfl, ?_⟩; intro w hSw; (try dsimp only at hSw); go_simp; try with_reducible rfl)
            simp only [put_mk, List.set_cons_succ, List.set_cons_zero]
            refine wpAnyH_take (i := 1) (oi := ?o1x1) (v := ?v1x1) ?hi1x1 (by kernel_rfl) ?hf1x1 ?hr1x1 (fun _ _ _ h => h) ?hy1x1 (by assumption) ?rest1x1
            case hi1x1 => (simp only [List.getElem?_toArray, List.getElem?_cons_succ, List.getElem?_cons_zero]; exact rfl)
            case hf1x1 => kernel_rfl
            case hr1x1 => kernel_rfl
            case hy1x1 => (refine Or.inl ⟨by rfl, ?_⟩; intro w hSw; (try dsimp only at hSw); go_simp; try with_reducible rfl)
            simp only [put_mk, List.set_cons_succ, List.set_cons_zero]
            refine wpAnyH_take (i := 2) (oi := ?o1x2) (v := ?v1x2) ?hi1x2 (by kernel_rfl) ?hf1x2 ?hr1x2 (fun _ _ _ h => h) ?hy1x2 (by assumption) ?rest1x2
            case hi1x2 => (simp only [List.getElem?_toArray, List.getElem?_cons_succ, List.getElem?_cons_zero]; exact rfl)
            case hf1x2 => kernel_rfl
            case hr1x2 => kernel_rfl
            case hy1x2 => (refine Or.inl ⟨by rfl, ?_⟩; intro w hSw; (try dsimp only at hSw); go_simp; try with_reducible rfl)
            simp only [put_mk, List.set_cons_succ, List.set_cons_zero]
            refine wpAnyH_take (i := 3) (oi := ?o1x3) (v := ?v1x3) ?hi1x3 (by kernel_rfl) ?hf1x3 ?hr1x3 (fun _ _ _ h => h) ?hy1x3 (by assumption) ?rest1x3
            case hi1x3 => (simp only [List.getElem?_toArray, List.getElem?_cons_succ, List.getElem?_cons_zero]; exact rfl)
            case hf1x3 => kernel_rfl
            case hr1x3 => kernel_rfl
            case hy1x3 => (refine Or.inl ⟨by rfl, ?_⟩; intro w hSw; (try dsimp only at hSw); go_simp; try with_reducible rfl)
            simp only [put_mk, List.set_cons_succ, List.set_cons_zero]
            refine wpAnyH_take (i := 4) (oi := ?o1x4) (v := ?v1x4) ?hi1x4 (by kernel_rfl) ?hf1x4 ?hr1x4 (fun _ _ _ h => h) ?hy1x4 (by assumption) ?rest1x4
            case hi1x4 => (simp only [List.getElem?_toArray, List.getElem?_cons_succ, List.getElem?_cons_zero]; exact rfl)
            case hf1x4 => kernel_rfl
            case hr1x4 => kernel_rfl
            case hy1x4 => (refine Or.inl ⟨by rfl, ?_⟩; intro w hSw; (try dsimp only at hSw); go_simp; try with_reducible rfl)
            simp only [put_mk, List.set_cons_succ, List.set_cons_zero]
            refine wpAnyH_take (i := 6) (oi := ?o1x6) (v := ?v1x6) ?hi1x6 (by kernel_rfl) ?hf1x6 ?hr1x6 (fun _ _ _ h => h) ?hy1x6 (by assumption) ?rest1x6
            case hi1x6 => (simp only [List.getElem?_toArray, List.getElem?_cons_succ, List.getElem?_cons_zero]; exact rfl)
            case hf1x6 => kernel_rfl
            case hr1x6 => kernel_rfl
            case hy1x6 => (refine Or.inl ⟨by rfl, ?_⟩; intro w hSw; (try dsimp only at hSw); go_simp; try with_reducible rfl)
            simp only [put_mk, List.set_cons_succ, List.set_cons_zero]
            refine wpAnyH_take (i := 7) (oi := ?o1x7) (v := ?v1x7) ?hi1x7 (by kernel_rfl) ?hf1x7 ?hr1x7 (fun _ _ _ h => h) ?hy1x7 (by assumption) ?rest1x7
            case hi1x7 => (simp only [List.getElem?_toArray, List.getElem?_cons_succ, List.getElem?_cons_zero]; exact rfl)
            case hf1x7 => kernel_rfl
            case hr1x7 => kernel_rfl
            case hy1x7 => (refine Or.inl ⟨by rfl, ?_⟩; intro w hSw; (try dsimp only at hSw); go_simp; try with_reducible rfl)
            simp only [put_mk, List.set_cons_succ, List.set_cons_zero]
            refine wpAnyH_take (i := 8) (oi := ?o1x8) (v := ?v1x8) ?hi1x8 (by kernel_rfl) ?hf1x8 ?hr1x8 (fun _ _ _ h => h) ?hy1x8 (by assumption) ?rest1x8
            case hi1x8 => (simp only [List.getElem?_toArray, List.getElem?_cons_succ, List.getElem?_cons_zero]; exact rfl)
            case hf1x8 => kernel_rfl
            case hr1x8 => kernel_rfl
            case hy1x8 => (refine Or.inl ⟨by rfl, ?_⟩; intro w hSw; (try dsimp only at hSw); go_simp; try with_reducible rfl)
            simp only [put_mk, List.set_cons_succ, List.set_cons_zero]
            refine wpAnyH_ready (rs := [5]) (by kernel_rfl) (by simp) ?_
            refine AllReadyH.cons (o := ?o1x5) ?hi1x5 (fun K hK => ?_) AllReadyH.nil
            case hi1x5 => (simp only [List.getElem?_toArray, List.getElem?_cons_succ, List.getElem?_cons_zero]; exact rfl)
            go_simp
            go_at_call 73
            refine ((HPa _).out).mono ?_
            rintro e wb ⟨rfl, hxb⟩
            refine hK.out _ _ ?_ (fun hHeld => ?_)
            · (repeat (first | exact Ext.refl _ | assumption | refine Ext.setCell ?_ (by first | (simp; done) | (simp; omega)) _ | refine Ext.drewN ?_ _ | refine Ext.alloc ?_ _ | refine Ext.drew ?_ | refine Ext.trans ?_ (by assumption)))
            clear hK K
            refine wpAnyH_ready (rs := [9]) (by kernel_rfl) (by simp) ?_
            refine AllReadyH.cons (o := ?o1x9) ?hi1x9 (fun K hK => ?_) AllReadyH.nil
            case hi1x9 => (simp only [List.getElem?_toArray, List.getElem?_cons_succ, List.getElem?_cons_zero]; exact rfl)
            go_simp
            go_at_call 73
            refine ((HPb _).out).mono ?_
            rintro e wc ⟨rfl, hxc⟩
            refine hK.out _ _ ?_ (fun hHeld => ?_)
            · (repeat (first | exact Ext.refl _ | assumption | refine Ext.setCell ?_ (by first | (simp; done) | (simp; omega)) _ | refine Ext.drewN ?_ _ | refine Ext.alloc ?_ _ | refine Ext.drew ?_ | refine Ext.trans ?_ (by assumption)))
            clear hK K
            refine wpAnyH_ready (rs := [10]) (by kernel_rfl) (by simp) ?_
            refine AllReadyH.cons (o := ?o1x10) ?hi1x10 (fun K hK => ?_) AllReadyH.nil
            case hi1x10 => (simp only [List.getElem?_toArray, List.getElem?_cons_succ, List.getElem?_cons_zero]; exact rfl)
            go_simp
            go_at_call 21
            refine ((HT1 _ (by repeat (first | exact Ext.refl _ | assumption | refine Ext.setCell ?_ (by first | (simp; done) | (simp; omega)) _ | refine Ext.drewN ?_ _ | refine Ext.alloc ?_ _ | refine Ext.drew ?_ | refine Ext.trans ?_ (by assumption)))).out).mono ?_
            rintro e wd ⟨rfl, hxd⟩
            refine hK.out _ _ ?_ (fun hHeld => ?_)
            · (repeat (first | exact Ext.refl _ | assumption | refine Ext.setCell ?_ (by first | (simp; done) | (simp; omega)) _ | refine Ext.drewN ?_ _ | refine Ext.alloc ?_ _ | refine Ext.drew ?_ | refine Ext.trans ?_ (by assumption)))
            clear hK K
            refine wpAnyH_take (i := 11) (oi := ?o1x11) (v := ?v1x11) ?hi1x11 (by kernel_rfl) ?hf1x11 ?hr1x11 (fun _ _ _ h => h) ?hy1x11 (by assumption) ?rest1x11
            case hi1x11 => (simp only [List.getElem?_toArray, List.getElem?_cons_succ, List.getElem?_cons_zero]; exact rfl)
            case hf1x11 => kernel_rfl
            case hr1x11 => kernel_rfl
            case hy1x11 => (refine Or.inl ⟨by rfl, ?_⟩; intro w hSw; (try dsimp only at hSw); go_simp; try with_reducible rfl)
            simp only [put_mk, List.set_cons_succ, List.set_cons_zero]
            refine wpAnyH_take (i := 12) (oi := ?o1x12) (v := ?v1x12) ?hi1x12 (by kernel_rfl) ?hf1x12 ?hr1x12 (fun _ _ _ h => h) ?hy1x12 (by assumption) ?rest1x12
            case hi1x12 => (simp only [List.getElem?_toArray, List.getElem?_cons_succ, List.getElem?_cons_zero]; exact rfl)
            case hf1x12 => kernel_rfl
            case hr1x12 => kernel_rfl
            case hy1x12 => (refine Or.inl ⟨by rfl, ?_⟩; intro w hSw; (try dsimp only at hSw); go_simp; try with_reducible rfl)
            simp only [put_mk, List.set_cons_succ, List.set_cons_zero]
            refine wpAnyH_take (i := 13) (oi := ?o1x13) (v := ?v1x13) ?hi1x13 (by kernel_rfl) ?hf1x13 ?hr1x13 (fun _ _ _ h => h) ?hy1x13 (by assumption) ?rest1x13
            case hi1x13 => (simp only [List.getElem?_toArray, List.getElem?_cons_succ, List.getElem?_cons_zero]; exact rfl)
            case hf1x13 => kernel_rfl
            case hr1x13 => kernel_rfl
            case hy1x13 => (refine Or.inl ⟨by rfl, ?_⟩; intro w hSw; (try dsimp only at hSw); go_simp; try with_reducible rfl)
            simp only [put_mk, List.set_cons_succ, List.set_cons_zero]
            refine wpAnyH_take (i := 14) (oi := ?o1x14) (v := ?v1x14) ?hi1x14 (by kernel_rfl) ?hf1x14 ?hr1x14 (fun _ _ _ h => h) ?hy1x14 (by assumption) ?rest1x14
            case hi1x14 => (simp only [List.getElem?_toArray, List.getElem?_cons_succ, List.getElem?_cons_zero]; exact rfl)
            case hf1x14 => kernel_rfl
            case hr1x14 => kernel_rfl
            case hy1x14 => (refine Or.inl ⟨by rfl, ?_⟩; intro w hSw; (try dsimp only at hSw); go_simp; try with_reducible rfl)
            simp only [put_mk, List.set_cons_succ, List.set_cons_zero]
            refine wpAnyH_take (i := 15) (oi := ?o1x15) (v := ?v1x15) ?hi1x15 (by kernel_rfl) ?hf1x15 ?hr1x15 (fun _ _ _ h => h) ?hy1x15 (by assumption) ?rest1x15
            case hi1x15 => (simp only [List.getElem?_toArray, List.getElem?_cons_succ, List.getElem?_cons_zero]; exact rfl)
            case hf1x15 => kernel_rfl
            case hr1x15 => kernel_rfl
            case hy1x15 => (refine Or.inl ⟨by rfl, ?_⟩; intro w hSw; (try dsimp only at hSw); go_simp; try with_reducible rfl)
            simp only [put_mk, List.set_cons_succ, List.set_cons_zero]
            refine wpAnyH_done (by kernel_rfl) ?_ _
            refine NoPanic.normal ?_
            have hO5 := hO.ext hHeld
            have hx5 := hx.trans hHeld
            clear t0 t1 t2 t3 t4 r0 r1 r2 r3 r4 r5 hO hx HT1 HPa HPb hxq
            generalize hwd : wd = w5 at *
            clear hwd
            cases hst : S a b with
            | none =>
              rw [hst] at Hgb
              dsimp only at Hgb
              have HO5 := hidA hO5
              clear hO5
              go_wp2
              go_roundw
              case rel => exact ⟨b + 1, HbN.out, (by first | rfl | go_num), by rw [Hgb.out, List.append_nil]; exact HO5.out, hx5⟩
              case measure => exact nx_k HbN.out
            | some d =>
              rw [hst] at Hgb
              dsimp only at Hgb
              have hxn : Ext w5 (w5.alloc (.cells #[.int .i64 (a : Int), .int .i64 (b : Int), .float .f32 d] 134)) := (Ext.refl w5).alloc _
              have hownN := hidA (hO5.ext hxn)
              have hnewN : Hid (∀ j u, ([.int .i64 (a : Int), .int .i64 (b : Int), .float .f32 d] : List Value)[j]? = some u → (w5.alloc (.cells #[.int .i64 (a : Int), .int .i64 (b : Int), .float .f32 d] 134)).cell? ((⟨w5.heap.size, 0, none⟩ : Addr).add j) = some u) := World.news_of_block (cs := #[.int .i64 (a : Int), .int .i64 (b : Int), .float .f32 d]) (t := 134) (fr := (0, 0)) (heap_alloc_new w5 _)
              have honeN : Hid (∀ u ∈ ([.int .i64 (a : Int), .int .i64 (b : Int), .float .f32 d] : List Value), u.oneCell' = true) := by intro u hu; simp at hu; rcases hu with rfl | rfl | rfl <;> rfl
              have hsN := hidA (hx5.trans hxn).size
              have hmxN := hidA (max3 Hlen.out).1
              have hmbN := hidA (max3 Hlen.out).2
              have Hxn := hidA (hx5.trans hxn)
              clear hxn hO5 hx5
              go_upto_region 13 with (at_builtin; (refine wpList_append_lies _ (by rfl) _ _ 132 (by rfl) w1.heap.size 134 ti (.agg #[.int .i64 0, .int .i64 0, .float .f32 0]) 3 24 Try.underlying132 hi0 hz0 hz1 hz2 (by rfl) (by decide) _ _ _ (by rfl) hownN.out ⟨w5.heap.size, 0, none⟩ 1 1 [.int .i64 (a : Int), .int .i64 (b : Int), .float .f32 d] (by rfl) (by rfl) hnewN.out honeN.out (by omega) hmxN.out hmbN.out hsN.out (w5.heap.size + 1) (by simp) ?_; intro gA capA wA hownA hgrowA hatA hltA))
              have hxA : Ext w1 wA := Hxn.out.grown hgrowA (fun b hb => (World.ownsRow.lt hownN.out b hb).1)
              have hOA : OwnE wA w1.heap.size (.slice (some ⟨gA, 0, none⟩) ((gG a ++ gB a b).length + 1) capA) (gG a ++ gB a (b + 1)) := by
                rw [Hgb.out, ← List.append_assoc]
                exact OwnE.push hownA
              have HOA := hidA hOA
              clear hownN hnewN honeN hsN Hxn hgrowA hatA hltA hownA hmxN hmbN hOA
              go_wp2
              go_roundw
              case rel => exact ⟨b + 1, HbN.out, (by first | rfl | go_num), (by first | exact HOA.out | (have h8 := HOA.out; rw [List.length_append] at h8; exact h8)), hxA⟩
              case measure => exact nx_k HbN.out
          · obtain rfl : b = N := by omega
            rw [← HgG.out] at hO
            have HO := hidA hO
            clear hO hb hbN
            go_wp2
            go_roundw
            case rel => exact ⟨a + 1, HaN.out, (by first | rfl | go_num), HO.out, hx⟩
            case measure => exact nx_k HaN.out
      · obtain rfl : a = N := by omega
        obtain ⟨L, hL⟩ : ∃ L, L = gG a := ⟨_, rfl⟩
        rw [← hL] at hO HLe HlN
        obtain ⟨LA, lc, rfl, _⟩ := hO.any
        have HLM : Hid (LM w wr #[.int .i64 X, .int .i64 Y, .int .i64 (Wn : Int), .int .i64 (Hn : Int), .slice A a c] hf hp ho hi px py a (updF (fun _ => false) src true) (fun _ => 0) (.slice LA L.length lc) L) := ⟨kF2.ext hx, kP2.ext hx, kO2.ext hx, kI2.ext hx, hO.low HxW.out.size, HxW.out.trans hx, Hlo.out, Hli.out⟩
        obtain ⟨q, hq⟩ : ∃ q, q = L.length := ⟨_, rfl⟩
        rw [← hq] at HLM HlN ⊢
        have HQ := hidA hq
        have hq1 : q ≤ 100000 := HlN.out
        clear kF2 kR2 kP2 kO2 kI2 hO hx hL hq ha haN HgB HgG HlG HB0 HG0 HTo HPt HxW HSe
        obtain ⟨N, hNN⟩ : ∃ N, N = a := ⟨_, rfl⟩
        subst hNN
        go_upto_region 16 with fail
        go_loopg [16] (swM (updF (fun _ => false) src true) (fun _ => 0) N + 1) (fun gk s16 wr => ∃ (ag : Bool) (seen : Nat → Bool) (out : Nat → Nat), s16 = .bool ag ∧ LM w wr #[.int .i64 X, .int .i64 Y, .int .i64 (Wn : Int), .int .i64 (Hn : Int), .slice A N c] hf hp ho hi px py N seen out (.slice LA q lc) L ∧ SW N E src seen out ∧ (ag = true → swM seen out N < gk) ∧ (ag = false → ∀ e, e ∈ L → clE seen out e))
        case atStart => exact ⟨true, _, _, rfl, HLM.out, SW.start N E src, fun _ => Nat.lt_succ_self _, fun h => by cases h⟩
        case round =>
          clear HLM
          obtain ⟨ag, seen, out, rfl, hM, hW, hgk, hcl⟩ := hrel
          cases ag
          · have HP := hidA (hW.fin HE.out fun a b d h1 h2 h3 => hcl rfl (a, b, d) ((HLe.out a b d).2 ⟨h1, h2⟩) h3)
            have c4 := hM.kf.cell 4
            have HM := hidA hM
            clear hW hgk hcl hM
            go_upto_region 26 with fail
            clear c4
            have hS : LS w (wr.alloc (.cells (intB N fun _ => 0) 3)) #[.int .i64 X, .int .i64 Y, .int .i64 (Wn : Int), .int .i64 (Hn : Int), .slice A N c] hf hp ho hi wr.heap.size px py N seen out (fun j => if j < 0 then -1 else 0) (.slice LA q lc) L := ⟨HM.out.step ((Ext.refl _).alloc _), by rw [neg_zero]; exact Bk.new' rfl, HM.out.ext.size⟩
            have HS0 := hidA hS
            clear hS HM mi
            generalize wr.alloc (.cells (intB N fun _ => 0) 3) = w7 at *
            generalize wr.heap.size = hg at *
            go_loopw [136] (fun s136 wz => ∃ k : Nat, k ≤ N ∧ s136 = .int .i64 k ∧ LS w wz #[.int .i64 X, .int .i64 Y, .int .i64 (Wn : Int), .int .i64 (Hn : Int), .slice A N c] hf hp ho hi hg px py N seen out (fun j => if j < k then -1 else 0) (.slice LA q lc) L) (fun s136 _ => N - (intOf s136).toNat)
            case atStart => exact ⟨0, Nat.zero_le _, rfl, HS0.out⟩
            case round =>
              clear HS0
              obtain ⟨k, hk, rfl, hS⟩ := hrel
              by_cases hkN : k < N
              · have HkN := hidA hkN
                have f0 := hS.ig.frozen k
                have e1 : wr.cell? ⟨hg, k, none⟩ = some (.int .i64 (if k < k then -1 else 0)) := by rw [hS.ig.cell]; exact intB_get _ hkN
                have i0 : (0 : Int) ≤ k := by omega
                have i1 : (k : Int) < N := by omega
                have hS2 := hS.put k (-1)
                rw [neg_fun] at hS2
                have HS2 := hidA hS2
                clear hS hS2
                go_wp2
                go_roundw
                case rel => exact ⟨k + 1, HkN.out, (by first | rfl | go_num), HS2.out⟩
                case measure => exact nx_k HkN.out
              · obtain rfl : k = N := by omega
                obtain ⟨N, hNN⟩ : ∃ N, N = k := ⟨_, rfl⟩
                subst hNN
                clear hk hkN
                have HS := hidA hS
                have s0 : ∀ w', Ext wr w' → w'.cell? ⟨hg, src, none⟩ = some (.int .i64 (if src < N then -1 else 0)) := fun w' h => by rw [(HS.out.ig.ext h).cell]; exact intB_get _ Hs.out
                have f0 : ∀ w', Ext wr w' → w'.frozen? ⟨hg, src, none⟩ = false := fun w' h => (HS.out.ig.ext h).frozen src
                have c0 := hS.lm.kf.cell 0
                have c1 := hS.lm.kf.cell 1
                have c2 := hS.lm.kf.cell 2
                have c3 := hS.lm.kf.cell 3
                have p0 := hS.lm.kp.cell 0
                have p1 := hS.lm.kp.cell 1
                clear hS
                go_upto_region 31 with (go_at_call 66; refine ((HCl _).out).mono ?_; rintro e wx ⟨rfl, hx1⟩)
                have hS2 := (HS.out.step hx1).put src 0
                have HS3 : Hid (LS w (wx.setCell ⟨hg, src, none⟩ (.int .i64 0)) #[.int .i64 X, .int .i64 Y, .int .i64 (Wn : Int), .int .i64 (Hn : Int), .slice A N c] hf hp ho hi hg px py N seen out (updF (fun _ => -1) src 0) (.slice LA q lc) L) := ⟨hS2.lm, by have h := hS2.ig; rw [neg_end] at h; exact h, hS2.b3⟩
                clear s0 f0 c0 c1 c2 c3 p0 p1 HS hS2 hx1
                generalize wx.setCell ⟨hg, src, none⟩ (.int .i64 0) = w8 at *
                have c4 := HS3.out.lm.kf.cell 4
                go_upto_region 32 with fail
                clear c4
                go_loopw [155] (fun s155 wz => ∃ (n : Nat) (H : Nat → Int), n ≤ N ∧ s155 = .int .i64 n ∧ LS w wz #[.int .i64 X, .int .i64 Y, .int .i64 (Wn : Int), .int .i64 (Hn : Int), .slice A N c] hf hp ho hi hg px py N seen out H (.slice LA q lc) L ∧ SP N E src (tgt out) n H) (fun s155 _ => N - (intOf s155).toNat)
                case atStart => exact ⟨0, _, Nat.zero_le _, rfl, HS3.out, SP.start N E src _⟩
                case round =>
                  clear HS3
                  obtain ⟨n, H, hn, rfl, hS, hSP⟩ := hrel
                  by_cases hnN : n < N
                  · have HnN := hidA hnN
                    have HSPr := hidA hSP.open
                    have HS := hidA hS
                    have n0 : (n : Int) < N := by omega
                    clear hS hSP
                    go_upto_region 35 with fail
                    go_loopw [160] (fun s160 wz => ∃ (i : Nat) (K : Nat → Int), i ≤ q ∧ s160 = .int .i64 i ∧ LS w wz #[.int .i64 X, .int .i64 Y, .int .i64 (Wn : Int), .int .i64 (Hn : Int), .slice A N c] hf hp ho hi hg px py N seen out K (.slice LA q lc) L ∧ SPr N E src (tgt out) n (L.take i) K) (fun s160 _ => q - (intOf s160).toNat)
                    case atStart => exact ⟨0, _, Nat.zero_le _, rfl, HS.out, by rw [List.take_zero]; exact HSPr.out⟩
                    case round =>
                      clear HS HSPr
                      obtain ⟨i, K, hile, rfl, hS, hSP⟩ := hrel
                      by_cases hiq : i < q
                      · have Hiq := hidA hiq
                        obtain ⟨ad, rfl, hb1, c0, c1, c2⟩ := ed_at (hS.lm.own.rd HQ.out) (k := i) (by have := HQ.out; omega)
                        obtain ⟨⟨a, b, d⟩, hed⟩ : ∃ e : Nat × Nat × Nat, L.getD i (0, 0, 0) = e := ⟨_, rfl⟩
                        have hmm2 := (HLe.out a b d).1 (by rw [← hed]; exact getD_mem3 (by have := HQ.out; omega))
                        rw [hed] at c0 c1 c2
                        dsimp only at c0 c1 c2
                        have haN : a < N := hmm2.1
                        have hmm : (b, d) ∈ E a := hmm2.2
                        have hEd : b < N ∧ Bd 56 d ∧ 0 < valI d := ⟨HE.out.to a b d hmm, HE.out.bd a b d hmm, HE.out.nn a b d hmm⟩
                        have hbN := hEd.1
                        have i0 : (0 : Int) ≤ i := by omega
                        have i1 : (i : Int) < q := by omega
                        have a0 : (0 : Int) ≤ a := by omega
                        have a1 : (a : Int) < N := by omega
                        have b0 : (0 : Int) ≤ b := by omega
                        have b1 : (b : Int) < N := by omega
                        clear hmm2 hbN
                        have HTk := hidA (show L.take (i + 1) = L.take i ++ [(a, b, d)] from by rw [take_snoc3 (by have := HQ.out; omega), hed])
                        clear hed
                        go_upto_region 37 with fail
                        have kE : Bk (wr.alloc (.cells #[.int .i64 (a : Int), .int .i64 (b : Int), .float .f32 d] 134)) wr.heap.size 134 #[.int .i64 (a : Int), .int .i64 (b : Int), .float .f32 d] := Bk.new' rfl
                        have HS5 := hidA (hS.step ((Ext.refl wr).alloc (.cells #[.int .i64 (a : Int), .int .i64 (b : Int), .float .f32 d] 134)))
                        clear c0 c1 c2 hS hb1
                        generalize wr.alloc (.cells #[.int .i64 (a : Int), .int .i64 (b : Int), .float .f32 d] 134) = w5 at *
                        generalize wr.heap.size = eb at *
                        obtain ⟨_, o2, _⟩ := HP.out.ob a haN
                        obtain ⟨hadd, _, _, _⟩ := sum_ok (HP.out.ob a haN).1 o2 hEd.2.1 hEd.2.2
                        have hrun := fun (w : World) => run_float_arith (P := Try.prog) w .add 27 .f32 _ _ _ hadd
                        have x0 := kE.cell 0
                        have x1 := kE.cell 1
                        have x2 := kE.cell 2
                        have ga : w5.cell? ⟨hg, a, none⟩ = some (.int .i64 (K a)) := by rw [HS5.out.ig.cell]; exact intB_get _ haN
                        have gb : w5.cell? ⟨hg, b, none⟩ = some (.int .i64 (K b)) := by rw [HS5.out.ig.cell]; exact intB_get _ hEd.1
                        have oa : w5.cell? ⟨ho, a, none⟩ = some (.float .f32 (out a)) := by rw [HS5.out.lm.og.cell]; exact flo_get _ haN
                        have ob : w5.cell? ⟨ho, b, none⟩ = some (.float .f32 (out b)) := by rw [HS5.out.lm.og.cell]; exact flo_get _ hEd.1
                        have HSP := hidA hSP
                        have HhaN := hidA haN
                        have HhEd := hidA hEd
                        have Hmm := hidA hmm
                        have f1 := HS5.out.ig.frozen b
                        clear hSP o2 hadd hEd haN hmm
                        by_cases hKa : K a = n
                        · have eKa : (K a == (n : Int)) = true := by simpa using hKa
                          by_cases hKb : K b < 0
                          · have dKb : decide (K b < 0) = true := decide_eq_true hKb
                            cases htt : tgt out a b d
                            · have hq2 : (FloatKind.f32.format.order (fadd (out a) d) (out b) == some .eq) = false := htt
                              have HSP2 := hidA (HSP.out.stay (.inr (.inr htt)))
                              generalize fadd (out a) d = x at *
                              clear htt
                              go_quiet (fail)
                              have HS6 := hidA (HS5.out.step (show Ext w5 (w5.drewN nq) from (by repeat (first | exact Ext.refl _ | assumption | refine Ext.setCell ?_ (by first | (simp; done) | (simp; omega)) _ | refine Ext.drewN ?_ _ | refine Ext.alloc ?_ _ | refine Ext.drew ?_ | refine Ext.trans ?_ (by assumption)))))
                              clear x0 x1 x2 ga gb oa ob f1 kE hrun HS5 eKa dKb hq2
                              generalize w5.drewN nq = w6 at *
                              go_wp2
                              go_roundw
                              case rel => exact ⟨i + 1, _, Hiq.out, (by first | rfl | go_num), HS6.out, by rw [HTk.out]; exact HSP2.out⟩
                              case measure => exact nx_k Hiq.out
                            · have hq2 : (FloatKind.f32.format.order (fadd (out a) d) (out b) == some .eq) = true := htt
                              have HSP2 := hidA (HSP.out.put HhaN.out HhEd.out.1 Hmm.out hKa hKb htt)
                              generalize fadd (out a) d = x at *
                              clear htt
                              go_quiet (fail)
                              have HS6 := hidA (HS5.out.step (show Ext w5 (w5.drewN nq) from (by repeat (first | exact Ext.refl _ | assumption | refine Ext.setCell ?_ (by first | (simp; done) | (simp; omega)) _ | refine Ext.drewN ?_ _ | refine Ext.alloc ?_ _ | refine Ext.drew ?_ | refine Ext.trans ?_ (by assumption)))))
                              have kE6 := kE.ext (show Ext w5 (w5.drewN nq) from (by repeat (first | exact Ext.refl _ | assumption | refine Ext.setCell ?_ (by first | (simp; done) | (simp; omega)) _ | refine Ext.drewN ?_ _ | refine Ext.alloc ?_ _ | refine Ext.drew ?_ | refine Ext.trans ?_ (by assumption))))
                              clear x0 x1 x2 ga gb oa ob f1 kE hrun HS5 eKa dKb hq2 hKa hKb
                              generalize w5.drewN nq = w6 at *
                              have x1 := kE6.cell 1
                              have gb : w6.cell? ⟨hg, b, none⟩ = some (.int .i64 (K b)) := by rw [HS6.out.ig.cell]; exact intB_get _ HhEd.out.1
                              have f1 := HS6.out.ig.frozen b
                              have HS7 := hidA (HS6.out.put b ((n : Int) + 1))
                              clear kE6
                              go_wp2
                              clear x1 gb f1 HS6
                              go_roundw
                              case rel => exact ⟨i + 1, _, Hiq.out, (by first | rfl | go_num), HS7.out, by rw [HTk.out]; exact HSP2.out⟩
                              case measure => exact nx_k Hiq.out
                          · have dKb : decide (K b < 0) = false := decide_eq_false hKb
                            have HSP2 := hidA (HSP.out.stay (m := b) (a := a) (b := d) (.inl ⟨by omega, HhEd.out.1⟩))
                            generalize fadd (out a) d = x at *
                            go_quiet (fail)
                            have HS6 := hidA (HS5.out.step (show Ext w5 (w5.drewN nq) from (by repeat (first | exact Ext.refl _ | assumption | refine Ext.setCell ?_ (by first | (simp; done) | (simp; omega)) _ | refine Ext.drewN ?_ _ | refine Ext.alloc ?_ _ | refine Ext.drew ?_ | refine Ext.trans ?_ (by assumption)))))
                            clear x0 x1 x2 ga gb oa ob f1 kE hrun HS5 eKa dKb
                            generalize w5.drewN nq = w6 at *
                            go_wp2
                            go_roundw
                            case rel => exact ⟨i + 1, _, Hiq.out, (by first | rfl | go_num), HS6.out, by rw [HTk.out]; exact HSP2.out⟩
                            case measure => exact nx_k Hiq.out
                        · have eKa : (K a == (n : Int)) = false := by simpa using hKa
                          have HSP2 := hidA (HSP.out.stay (m := b) (a := a) (b := d) (.inr (.inl hKa)))
                          generalize fadd (out a) d = x at *
                          go_quiet (fail)
                          have HS6 := hidA (HS5.out.step (show Ext w5 (w5.drewN nq) from (by repeat (first | exact Ext.refl _ | assumption | refine Ext.setCell ?_ (by first | (simp; done) | (simp; omega)) _ | refine Ext.drewN ?_ _ | refine Ext.alloc ?_ _ | refine Ext.drew ?_ | refine Ext.trans ?_ (by assumption)))))
                          clear x0 x1 x2 ga gb oa ob f1 kE hrun HS5 eKa
                          generalize w5.drewN nq = w6 at *
                          go_wp2
                          go_roundw
                          case rel => exact ⟨i + 1, _, Hiq.out, (by first | rfl | go_num), HS6.out, by rw [HTk.out]; exact HSP2.out⟩
                          case measure => exact nx_k Hiq.out
                      · obtain rfl : i = q := by omega
                        have HSP := hidA (hSP.close fun a m b h1 h2 => by
                          rw [List.take_of_length_le (by have := HQ.out; omega)]
                          exact (HLe.out a m b).2 ⟨h1, h2⟩)
                        have HS := hidA hS
                        clear hSP hS hile hiq
                        go_wp2
                        go_roundw
                        case rel => exact ⟨n + 1, _, HnN.out, (by first | rfl | go_num), HS.out, HSP.out⟩
                        case measure => exact nx_k HnN.out
                  · obtain rfl : n = N := by omega
                    have HH := hidA hSP.fin
                    have HS := hidA hS
                    clear hSP hS hn hnN
                    go_wp2
                    refine bodyPost_ret (v := .tuple #[.slice (some ⟨ho, 0, none⟩) n n, .slice (some ⟨hi, 0, none⟩) n n, .slice (some ⟨hg, 0, none⟩) n n]) (by simp [results, Try.results29, go_sem]) rfl ?_
                    rw [HEe.out] at HP HH
                    exact ⟨ho, hi, hg, seen, out, H, rfl, HS.out.lm.og, HS.out.lm.eg, HS.out.ig, HP.out, HH.out, HS.out.lm.ext⟩
          · have Hgk := hidA (hgk rfl)
            have HM := hidA hM
            have HW := hidA hW
            clear hgk hcl hM hW
            go_upto_region 19 with fail
            go_loopw [16, 80] (fun s16 s80 wz => ∃ (i : Nat) (ag : Bool) (sn : Nat → Bool) (ot : Nat → Nat), i ≤ q ∧ s80 = .int .i64 i ∧ s16 = .bool ag ∧ LM w wz #[.int .i64 X, .int .i64 Y, .int .i64 (Wn : Int), .int .i64 (Hn : Int), .slice A N c] hf hp ho hi px py N sn ot (.slice LA q lc) L ∧ SW N E src sn ot ∧ (ag = false → sn = seen ∧ ot = out ∧ ∀ j, j < i → clE seen out (L.getD j (0, 0, 0))) ∧ (ag = true → swM sn ot N < swM seen out N)) (fun _ s80 _ => q - (intOf s80).toNat)
            case atStart => exact ⟨0, false, seen, out, Nat.zero_le _, rfl, rfl, HM.out, HW.out, fun _ => ⟨rfl, rfl, fun j hj => absurd hj (Nat.not_lt_zero j)⟩, fun h => by cases h⟩
            case round =>
              clear HM HW
              obtain ⟨i, ag, sn, ot, hile, rfl, rfl, hS, hW, hf2, ht2⟩ := hrel
              by_cases hiq : i < q
              · have Hiq := hidA hiq
                obtain ⟨ad, rfl, hb1, c0, c1, c2⟩ := ed_at (hS.own.rd HQ.out) (k := i) (by have := HQ.out; omega)
                obtain ⟨⟨a, b, d⟩, hed⟩ : ∃ e : Nat × Nat × Nat, L.getD i (0, 0, 0) = e := ⟨_, rfl⟩
                have hmm2 := (HLe.out a b d).1 (by rw [← hed]; exact getD_mem3 (by have := HQ.out; omega))
                rw [hed] at c0 c1 c2
                dsimp only at c0 c1 c2
                have haN : a < N := hmm2.1
                have hmm : (b, d) ∈ E a := hmm2.2
                have hEd : b < N ∧ Bd 56 d ∧ 0 < valI d := ⟨HE.out.to a b d hmm, HE.out.bd a b d hmm, HE.out.nn a b d hmm⟩
                have hbN := hEd.1
                have i0 : (0 : Int) ≤ i := by omega
                have i1 : (i : Int) < q := by omega
                have a0 : (0 : Int) ≤ a := by omega
                have a1 : (a : Int) < N := by omega
                have b0 : (0 : Int) ≤ b := by omega
                have b1 : (b : Int) < N := by omega
                clear hmm2 hbN
                have Hed := hidA hed
                clear hed
                go_upto_region 21 with fail
                have kE : Bk (wr.alloc (.cells #[.int .i64 (a : Int), .int .i64 (b : Int), .float .f32 d] 134)) wr.heap.size 134 #[.int .i64 (a : Int), .int .i64 (b : Int), .float .f32 d] := Bk.new' rfl
                have HM5 := hidA (hS.step ((Ext.refl wr).alloc (.cells #[.int .i64 (a : Int), .int .i64 (b : Int), .float .f32 d] 134)))
                clear c0 c1 c2 hS hb1
                generalize wr.alloc (.cells #[.int .i64 (a : Int), .int .i64 (b : Int), .float .f32 d] 134) = w5 at *
                generalize wr.heap.size = eb at *
                obtain ⟨hadd, _, _, _⟩ := sum_ok (hW.ob a haN).1 (hW.ob a haN).2.1 hEd.2.1 hEd.2.2
                have hrun := fun (w : World) => run_float_arith (P := Try.prog) w .add 27 .f32 _ _ _ hadd
                have x0 := kE.cell 0
                have x1 := kE.cell 1
                have x2 := kE.cell 2
                have sa : w5.cell? ⟨hi, a, none⟩ = some (.bool (sn a)) := by rw [HM5.out.eg.cell]; exact bools_get _ haN
                have sb : w5.cell? ⟨hi, b, none⟩ = some (.bool (sn b)) := by rw [HM5.out.eg.cell]; exact bools_get _ hEd.1
                have oa : w5.cell? ⟨ho, a, none⟩ = some (.float .f32 (ot a)) := by rw [HM5.out.og.cell]; exact flo_get _ haN
                have ob : w5.cell? ⟨ho, b, none⟩ = some (.float .f32 (ot b)) := by rw [HM5.out.og.cell]; exact flo_get _ hEd.1
                have HW := hidA hW
                have HhaN := hidA haN
                have HhEd := hidA hEd
                have Hmm := hidA hmm
                have Hf2 := hidA hf2
                have Ht2 := hidA ht2
                have Hstay := hidA (fun (hcl : clE sn ot (a, b, d)) => show ag = false → sn = seen ∧ ot = out ∧ ∀ j, j < i + 1 → clE seen out (L.getD j (0, 0, 0)) from fun e => by
                  obtain ⟨e1, e2, e3⟩ := Hf2.out e
                  refine ⟨e1, e2, fun j hj => ?_⟩
                  by_cases ej : j = i
                  · subst ej
                    rw [Hed.out, ← e1, ← e2]
                    exact hcl
                  · exact e3 j (by omega))
                clear hW hadd hEd haN hmm hf2 ht2
                cases hsa : sn a
                · rw [hsa] at sa
                  have HF2 := hidA (Hstay.out (fun h => by rw [hsa] at h; cases h))
                  generalize fadd (ot a) d = x at *
                  clear hsa Hstay
                  go_quiet (fail)
                  have HM6 := hidA (HM5.out.step (show Ext w5 (w5.drewN nq) from (by repeat (first | exact Ext.refl _ | assumption | refine Ext.setCell ?_ (by first | (simp; done) | (simp; omega)) _ | refine Ext.drewN ?_ _ | refine Ext.alloc ?_ _ | refine Ext.drew ?_ | refine Ext.trans ?_ (by assumption)))))
                  clear x0 x1 x2 sa sb oa ob kE hrun HM5 
                  generalize w5.drewN nq = w6 at *
                  go_wp2
                  go_roundw
                  case rel => exact ⟨i + 1, ag, sn, ot, Hiq.out, (by first | rfl | go_num), rfl, HM6.out, HW.out, HF2.out, Ht2.out⟩
                  case measure => exact nx_k Hiq.out
                · rw [hsa] at sa
                  cases hsb : sn b
                  · rw [hsb] at sb
                    have Hg := hidA (show goesR sn ot b (fadd (ot a) d) = true from by unfold goesR; rw [hsb]; rfl)
                    clear hsb Hstay
                    have HWp := hidA (HW.out.put HhaN.out Hmm.out HhEd.out.1 HhEd.out.2.1 HhEd.out.2.2 hsa Hg.out)
                    have Hlt2 := hidA (show swM (updF sn b true) (updF ot b (fadd (ot a) d)) N < swM seen out N from by
                      have h1 := HW.out.less HhaN.out HhEd.out.1 HhEd.out.2.1 HhEd.out.2.2 Hg.out
                      cases hag : ag
                      · obtain ⟨e1, e2, _⟩ := Hf2.out hag
                        rw [e1, e2] at h1 ⊢
                        exact h1
                      · exact Nat.lt_trans h1 (Ht2.out hag))
                    generalize fadd (ot a) d = x at *
                    clear hsa Hg
                    go_quiet (fail)
                    have HM6 := hidA (HM5.out.step (show Ext w5 (w5.drewN nq) from (by repeat (first | exact Ext.refl _ | assumption | refine Ext.setCell ?_ (by first | (simp; done) | (simp; omega)) _ | refine Ext.drewN ?_ _ | refine Ext.alloc ?_ _ | refine Ext.drew ?_ | refine Ext.trans ?_ (by assumption)))))
                    have kE6 := kE.ext (show Ext w5 (w5.drewN nq) from (by repeat (first | exact Ext.refl _ | assumption | refine Ext.setCell ?_ (by first | (simp; done) | (simp; omega)) _ | refine Ext.drewN ?_ _ | refine Ext.alloc ?_ _ | refine Ext.drew ?_ | refine Ext.trans ?_ (by assumption))))
                    clear x0 x1 x2 sa sb oa ob kE HM5 
                    generalize w5.drewN nq = w6 at *
                    have x0 := kE6.cell 0
                    have x1 := kE6.cell 1
                    have x2 := kE6.cell 2
                    have sb : w6.cell? ⟨hi, b, none⟩ = some (.bool (sn b)) := by rw [HM6.out.eg.cell]; exact bools_get _ HhEd.out.1
                    have oa : w6.cell? ⟨ho, a, none⟩ = some (.float .f32 (ot a)) := by rw [HM6.out.og.cell]; exact flo_get _ HhaN.out
                    have ob : w6.cell? ⟨ho, b, none⟩ = some (.float .f32 (ot b)) := by rw [HM6.out.og.cell]; exact flo_get _ HhEd.out.1
                    have f1 := HM6.out.eg.frozen b
                    have f2 := HM6.out.og.frozen b
                    have q1 : (w6.setCell ⟨ho, b, none⟩ (.float .f32 x)).cell? ⟨hi, b, none⟩ = some (.bool (sn b)) := by rw [(HM6.out.eg.far (p := ⟨ho, b, none⟩) (Bk.ne HM6.out.eg HM6.out.og (by decide)) (.float .f32 x)).cell]; exact bools_get _ HhEd.out.1
                    have q2 := (kE6.far (p := ⟨ho, b, none⟩) (Bk.ne kE6 HM6.out.og (by decide)) (.float .f32 x)).cell 1
                    have HM7 := hidA ((HM6.out.put b x).step (Ext.drew (Ext.refl _)))
                    go_upto_region 22 with fail
                    go_region
                    clear x0 x1 x2 sb oa ob f1 f2 q1 q2 kE6 HM6 hrun
                    generalize ((w6.setCell ⟨ho, b, none⟩ (.float .f32 x)).setCell ⟨hi, b, none⟩ (.bool true)).drew = w7 at *
                    go_wp2
                    go_roundw
                    case rel => exact ⟨i + 1, true, updF sn b true, updF ot b x, Hiq.out, (by first | rfl | go_num), rfl, HM7.out, HWp.out, (fun h => by cases h), fun _ => Hlt2.out⟩
                    case measure => exact nx_k Hiq.out
                  · rw [hsb] at sb
                    cases hlt : lt (fadd (ot a) d) (ot b)
                    · have hq2 : (FloatKind.f32.format.order (fadd (ot a) d) (ot b) == some .lt) = false := hlt
                      have HF2 := hidA (Hstay.out (fun _ => show goesR sn ot b (fadd (ot a) d) = false from by unfold goesR; rw [hsb, hlt]; rfl))
                      generalize fadd (ot a) d = x at *
                      clear hsa hsb hlt Hstay
                      go_quiet (fail)
                      have HM6 := hidA (HM5.out.step (show Ext w5 (w5.drewN nq) from (by repeat (first | exact Ext.refl _ | assumption | refine Ext.setCell ?_ (by first | (simp; done) | (simp; omega)) _ | refine Ext.drewN ?_ _ | refine Ext.alloc ?_ _ | refine Ext.drew ?_ | refine Ext.trans ?_ (by assumption)))))
                      clear x0 x1 x2 sa sb oa ob kE hrun HM5 hq2
                      generalize w5.drewN nq = w6 at *
                      go_wp2
                      go_roundw
                      case rel => exact ⟨i + 1, ag, sn, ot, Hiq.out, (by first | rfl | go_num), rfl, HM6.out, HW.out, HF2.out, Ht2.out⟩
                      case measure => exact nx_k Hiq.out
                    · have hq2 : (FloatKind.f32.format.order (fadd (ot a) d) (ot b) == some .lt) = true := hlt
                      have Hg := hidA (show goesR sn ot b (fadd (ot a) d) = true from by unfold goesR; rw [hsb, hlt]; rfl)
                      clear hsb hlt Hstay
                      have HWp := hidA (HW.out.put HhaN.out Hmm.out HhEd.out.1 HhEd.out.2.1 HhEd.out.2.2 hsa Hg.out)
                      have Hlt2 := hidA (show swM (updF sn b true) (updF ot b (fadd (ot a) d)) N < swM seen out N from by
                        have h1 := HW.out.less HhaN.out HhEd.out.1 HhEd.out.2.1 HhEd.out.2.2 Hg.out
                        cases hag : ag
                        · obtain ⟨e1, e2, _⟩ := Hf2.out hag
                          rw [e1, e2] at h1 ⊢
                          exact h1
                        · exact Nat.lt_trans h1 (Ht2.out hag))
                      generalize fadd (ot a) d = x at *
                      clear hsa Hg
                      go_quiet (fail)
                      have HM6 := hidA (HM5.out.step (show Ext w5 (w5.drewN nq) from (by repeat (first | exact Ext.refl _ | assumption | refine Ext.setCell ?_ (by first | (simp; done) | (simp; omega)) _ | refine Ext.drewN ?_ _ | refine Ext.alloc ?_ _ | refine Ext.drew ?_ | refine Ext.trans ?_ (by assumption)))))
                      have kE6 := kE.ext (show Ext w5 (w5.drewN nq) from (by repeat (first | exact Ext.refl _ | assumption | refine Ext.setCell ?_ (by first | (simp; done) | (simp; omega)) _ | refine Ext.drewN ?_ _ | refine Ext.alloc ?_ _ | refine Ext.drew ?_ | refine Ext.trans ?_ (by assumption))))
                      clear x0 x1 x2 sa sb oa ob kE HM5 hq2
                      generalize w5.drewN nq = w6 at *
                      have x0 := kE6.cell 0
                      have x1 := kE6.cell 1
                      have x2 := kE6.cell 2
                      have sb : w6.cell? ⟨hi, b, none⟩ = some (.bool (sn b)) := by rw [HM6.out.eg.cell]; exact bools_get _ HhEd.out.1
                      have oa : w6.cell? ⟨ho, a, none⟩ = some (.float .f32 (ot a)) := by rw [HM6.out.og.cell]; exact flo_get _ HhaN.out
                      have ob : w6.cell? ⟨ho, b, none⟩ = some (.float .f32 (ot b)) := by rw [HM6.out.og.cell]; exact flo_get _ HhEd.out.1
                      have f1 := HM6.out.eg.frozen b
                      have f2 := HM6.out.og.frozen b
                      have q1 : (w6.setCell ⟨ho, b, none⟩ (.float .f32 x)).cell? ⟨hi, b, none⟩ = some (.bool (sn b)) := by rw [(HM6.out.eg.far (p := ⟨ho, b, none⟩) (Bk.ne HM6.out.eg HM6.out.og (by decide)) (.float .f32 x)).cell]; exact bools_get _ HhEd.out.1
                      have q2 := (kE6.far (p := ⟨ho, b, none⟩) (Bk.ne kE6 HM6.out.og (by decide)) (.float .f32 x)).cell 1
                      have HM7 := hidA ((HM6.out.put b x).step (Ext.drew (Ext.refl _)))
                      go_upto_region 22 with fail
                      go_region
                      clear x0 x1 x2 sb oa ob f1 f2 q1 q2 kE6 HM6 hrun
                      generalize ((w6.setCell ⟨ho, b, none⟩ (.float .f32 x)).setCell ⟨hi, b, none⟩ (.bool true)).drew = w7 at *
                      go_wp2
                      go_roundw
                      case rel => exact ⟨i + 1, true, updF sn b true, updF ot b x, Hiq.out, (by first | rfl | go_num), rfl, HM7.out, HWp.out, (fun h => by cases h), fun _ => Hlt2.out⟩
                      case measure => exact nx_k Hiq.out
              · obtain rfl : i = q := by omega
                have HM := hidA hS
                have HW := hidA hW
                have Hcl2 := hidA (fun (h : ag = false) => show ∀ e, e ∈ L → clE sn ot e from by
                  obtain ⟨e1, e2, e3⟩ := hf2 h
                  rw [e1, e2]
                  exact cl_all (by rw [← HQ.out]; exact e3))
                have Ht2 := hidA ht2
                clear hS hW hf2 ht2 hile hiq
                go_wp2
                go_roundg (swM seen out N)
                case measure => exact Hgk.out
                case rel => exact ⟨ag, sn, ot, rfl, HM.out, HW.out, Ht2.out, Hcl2.out⟩
end Go.Proofs.Ytpgdinpckolfpaa
