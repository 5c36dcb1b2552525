/- Contract: road.Build: the ground that fits a bed. -/
import Derived.Test.YtpgdinpckolfpaaBxAE
import Derived.Test.YtpgdinpckolfpaaRdG
import Derived.BigQuiet
import Derived.Lib.MinMax
import Derived.Test.YtpgdinpckolfpaaBxAB
import Derived.Test.YtpgdinpckolfpaaGridB
namespace Go.Proofs.Ytpgdinpckolfpaa
open Go.RowKit
attribute [local go_sem ↓] Go.wp_at_zero Go.wp_at_succ

/-- whether a cell is near enough to a place of a way -/
def inbW (X Y : Int) (Wn far : Nat) (ps : List (Int × Int)) (k j : Nat) : Bool :=
  decide ((ps.getD j (0, 0)).1 - far ≤ (cpt X Y Wn k).1 ∧ (cpt X Y Wn k).1 ≤ (ps.getD j (0, 0)).1 + far ∧ (ps.getD j (0, 0)).2 - far ≤ (cpt X Y Wn k).2 ∧ (cpt X Y Wn k).2 ≤ (ps.getD j (0, 0)).2 + far)
/-- the square of a distance -/
def dsW (X Y : Int) (Wn : Nat) (ps : List (Int × Int)) (k j : Nat) : Int :=
  ((cpt X Y Wn k).1 - (ps.getD j (0, 0)).1) * ((cpt X Y Wn k).1 - (ps.getD j (0, 0)).1) + ((cpt X Y Wn k).2 - (ps.getD j (0, 0)).2) * ((cpt X Y Wn k).2 - (ps.getD j (0, 0)).2)
/-- what nearest has found at place i, ahead of the cell kc -/
def psW (X Y : Int) (Wn far : Nat) (ps : List (Int × Int)) (i kc k : Nat) : Int × Int := nrS (inbW X Y Wn far ps k) (dsW X Y Wn ps k) (if k < kc then i + 1 else i)
section
variable {X Y : Int} {Wn far : Nat} {ps : List (Int × Int)} {i : Nat}
theorem nrS_out {inb : Nat → Bool} {ds : Nat → Int} {i : Nat} (h : inb i = false) : nrS inb ds (i + 1) = nrS inb ds i := by
  show ite _ _ _ = _
  rw [if_neg (by rw [h]; simp)]
theorem psW_eq {kc kc' : Nat} (h : kc ≤ kc') (ho : ∀ k, kc ≤ k → k < kc' → inbW X Y Wn far ps k i = false) : psW X Y Wn far ps i kc = psW X Y Wn far ps i kc' := by
  funext k
  unfold psW
  by_cases h1 : k < kc
  · rw [if_pos h1, if_pos (by omega)]
  · rw [if_neg h1]
    by_cases h2 : k < kc'
    · rw [if_pos h2, nrS_out (ho k (by omega) h2)]
    · rw [if_neg h2]
theorem psW_next {kc : Nat} (k : Nat) : psW X Y Wn far ps i (kc + 1) k = if k = kc then nrS (inbW X Y Wn far ps kc) (dsW X Y Wn ps kc) (i + 1) else psW X Y Wn far ps i kc k := by
  unfold psW
  by_cases e : k = kc
  · subst e
    rw [if_pos (by omega), if_pos rfl]
  · rw [if_neg e]
    by_cases h : k < kc
    · rw [if_pos h, if_pos (by omega)]
    · rw [if_neg h, if_neg (by omega)]
theorem psW_at (kc : Nat) : psW X Y Wn far ps i kc kc = nrS (inbW X Y Wn far ps kc) (dsW X Y Wn ps kc) i := by
  unfold psW
  rw [if_neg (by omega)]
theorem psW_zero (i k : Nat) : psW X Y Wn far ps i 0 k = nrS (inbW X Y Wn far ps k) (dsW X Y Wn ps k) i := by
  unfold psW
  rw [if_neg (by omega)]
theorem cell_rc {Wn r c : Nat} (hc : c < Wn) : (r * Wn + c) % Wn = c ∧ (r * Wn + c) / Wn = r := by
  refine ⟨?_, ?_⟩
  · rw [Nat.mul_comm, Nat.mul_add_mod, Nat.mod_eq_of_lt hc]
  · rw [Nat.mul_comm, Nat.mul_add_div (by omega), Nat.div_eq_of_lt hc, Nat.add_zero]
theorem inb_row {k r : Nat} (h1 : r * Wn ≤ k) (h2 : k < (r + 1) * Wn) : ∃ c, c < Wn ∧ k = r * Wn + c ∧ cpt X Y Wn k = (X + (c : Int), Y + (r : Int)) := by
  rw [Nat.add_mul, Nat.one_mul] at h2
  obtain ⟨c, rfl⟩ : ∃ c, k = r * Wn + c := ⟨k - r * Wn, by omega⟩
  have hc : c < Wn := by omega
  obtain ⟨a, b⟩ := cell_rc (r := r) hc
  refine ⟨c, hc, rfl, ?_⟩
  unfold cpt
  rw [a, b]
end
/-- two rows of integers of the call's own -/
structure NM (w0 w : World) (gn gq N : Nat) (f g : Nat → Int) : Prop where
  a : Bk w gn 3 (intB N f)
  b : Bk w gq 3 (intB N g)
  ne : gn ≠ gq
  b1 : w0.heap.size ≤ gn
  b2 : w0.heap.size ≤ gq
  x : Ext w0 w
section
variable {w0 w : World} {gn gq N : Nat} {f g : Nat → Int}
theorem NM.step (h : NM w0 w gn gq N f g) {w' : World} (hx : Ext w w') : NM w0 w' gn gq N f g := ⟨h.a.ext hx, h.b.ext hx, h.ne, h.b1, h.b2, h.x.trans hx⟩
theorem NM.put1 (h : NM w0 w gn gq N f g) (k : Nat) (x : Int) : NM w0 (w.setCell ⟨gn, k, none⟩ (.int .i64 x)) gn gq N (updF f k x) g := by
  have e := Bk.set h.a k (.int .i64 x)
  rw [intB_set] at e
  exact ⟨e, h.b.far h.ne.symm _, h.ne, h.b1, h.b2, h.x.setCell (p := ⟨gn, k, none⟩) h.b1 _⟩
theorem NM.put2 (h : NM w0 w gn gq N f g) (k : Nat) (x : Int) : NM w0 (w.setCell ⟨gq, k, none⟩ (.int .i64 x)) gn gq N f (updF g k x) := by
  have e := Bk.set h.b k (.int .i64 x)
  rw [intB_set] at e
  exact ⟨h.a.far h.ne _, e, h.ne, h.b1, h.b2, h.x.setCell (p := ⟨gq, k, none⟩) h.b2 _⟩
theorem NM.c1 (h : NM w0 w gn gq N f g) {k : Nat} (hk : k < N) : w.cell? ⟨gn, k, none⟩ = some (.int .i64 (f k)) := by rw [h.a.cell]; exact intB_get _ hk
theorem NM.c2 (h : NM w0 w gn gq N f g) {k : Nat} (hk : k < N) : w.cell? ⟨gq, k, none⟩ = some (.int .i64 (g k)) := by rw [h.b.cell]; exact intB_get _ hk
theorem NM.congr (h : NM w0 w gn gq N f g) {f' g' : Nat → Int} (e1 : f = f') (e2 : g = g') : NM w0 w gn gq N f' g' := by rw [← e1, ← e2]; exact h
end
theorem psW_upd {X Y : Int} {Wn far : Nat} {ps : List (Int × Int)} {i kc : Nat} (hb : inbW X Y Wn far ps kc i = true) (hc : (psW X Y Wn far ps i kc kc).1 < 0 ∨ dsW X Y Wn ps kc i < (psW X Y Wn far ps i kc kc).2) :
    (updF (fun j => (psW X Y Wn far ps i kc j).1) kc (i : Int) = fun j => (psW X Y Wn far ps i (kc + 1) j).1) ∧ (updF (fun j => (psW X Y Wn far ps i kc j).2) kc (dsW X Y Wn ps kc i) = fun j => (psW X Y Wn far ps i (kc + 1) j).2) := by
  rw [psW_at] at hc
  have e : nrS (inbW X Y Wn far ps kc) (dsW X Y Wn ps kc) (i + 1) = ((i : Int), dsW X Y Wn ps kc i) := by
    show ite _ _ _ = _
    rw [if_pos ⟨hb, hc⟩]
  constructor
  · funext j
    show updF _ _ _ _ = (psW X Y Wn far ps i (kc + 1) j).1
    rw [psW_next]
    unfold updF
    by_cases h : j = kc
    · rw [if_pos h, if_pos h, e]
    · rw [if_neg h, if_neg h]
  · funext j
    show updF _ _ _ _ = (psW X Y Wn far ps i (kc + 1) j).2
    rw [psW_next]
    unfold updF
    by_cases h : j = kc
    · rw [if_pos h, if_pos h, e]
    · rw [if_neg h, if_neg h]
theorem psW_stay {X Y : Int} {Wn far : Nat} {ps : List (Int × Int)} {i kc : Nat} (hc : ¬ ((psW X Y Wn far ps i kc kc).1 < 0 ∨ dsW X Y Wn ps kc i < (psW X Y Wn far ps i kc kc).2)) : psW X Y Wn far ps i kc = psW X Y Wn far ps i (kc + 1) := by
  funext j
  rw [psW_next]
  by_cases h : j = kc
  · rw [psW_at] at hc
    rw [if_pos h, h, psW_at]
    show _ = ite _ _ _
    rw [if_neg (fun h => hc h.2)]
  · rw [if_neg h]
theorem NM.congrN {w0 w : World} {gn gq N : Nat} {f g f' g' : Nat → Int} (h : NM w0 w gn gq N f g) (e1 : ∀ k, k < N → f k = f' k) (e2 : ∀ k, k < N → g k = g' k) : NM w0 w gn gq N f' g' := by
  have key : ∀ {a b : Nat → Int}, (∀ k, k < N → a k = b k) → intB N a = intB N b := fun {a b} e => by
    unfold intB
    congr 1
    apply List.map_congr_left
    intro j hj
    rw [e j (List.mem_range.1 hj)]
  exact ⟨by rw [← key e1]; exact h.a, by rw [← key e2]; exact h.b, h.ne, h.b1, h.b2, h.x⟩
theorem sq_bd {d : Int} (h1 : -1024 ≤ d) (h2 : d ≤ 1024) : 0 ≤ d * d ∧ d * d ≤ 1048576 := by
  rcases Int.le_total 0 d with h | h
  · exact ⟨Int.mul_nonneg h h, Int.mul_le_mul h2 h2 h (by omega)⟩
  · have e : d * d = (-d) * (-d) := by rw [Int.neg_mul_neg]
    rw [e]
    exact ⟨Int.mul_nonneg (by omega) (by omega), Int.mul_le_mul (a := -d) (b := -d) (c := 1024) (d := 1024) (by omega) (by omega) (by omega) (by omega)⟩
theorem nxt_r {Y : Int} {r H : Nat} (h : r ≤ H) : (Y + (H : Int) + 1 - intOf (.int .i64 (Y + (r : Int) + 1))).toNat < (Y + (H : Int) + 1 - intOf (.int .i64 (Y + (r : Int)))).toNat := by
  simp only [intOf]
  omega
def ngF (k i : Nat) : Int := if k < i then -1 else 0
theorem ngF_succ (i : Nat) : updF (fun k => ngF k i) i (-1) = fun k => ngF k (i + 1) := by
  funext k
  unfold updF ngF
  by_cases h1 : k = i
  · subst h1
    rw [if_pos rfl, if_pos (by omega)]
  · rw [if_neg h1]
    by_cases h2 : k < i
    · show (if k < i then (-1 : Int) else 0) = _
      rw [if_pos h2, if_pos (by omega)]
    · show (if k < i then (-1 : Int) else 0) = _
      rw [if_neg h2, if_neg (by omega)]
theorem nxt_n {k n : Nat} (h : k < n) : n - (intOf (.int .i64 ((k : Int) + 1))).toNat < n - (intOf (.int .i64 (k : Int))).toNat := by
  simp [intOf]
  omega
set_option maxRecDepth 100000 in
set_option maxHeartbeats 12800000 in
theorem nearest_any (X Y : Int) (Wn Hn N : Nat) (B : Option Addr) (n d : Nat) (l : List (Int × Int)) (far : Nat) (w : World) (hr : Reg X Y Wn Hn) (hN : N = Wn * Hn) (hn : l.length = n) (hP : Rd w B (ptv l)) (hin : ∀ j, j < n → InR X Y Wn Hn (l.getD j (0, 0)).1 (l.getD j (0, 0)).2) (hn6 : n ≤ 65536) (hf : far ≤ 40) :
    Calls Try.prog 94 #[.agg #[.int .i64 X, .int .i64 Y, .int .i64 (Wn : Int), .int .i64 (Hn : Int)], .slice B n d, .int .i64 (far : Int)] w fun e w' => ∃ gn gq, e = .returned (.tuple #[.slice (some ⟨gn, 0, none⟩) N N, .slice (some ⟨gq, 0, none⟩) N N]) ∧
      NM w w' gn gq N (fun k => (nrS (inbW X Y Wn far l k) (dsW X Y Wn l k) n).1) (fun k => (nrS (inbW X Y Wn far l k) (dsW X Y Wn l k) n).2) := by
  have hN6 : N ≤ 65536 := by rw [hN]; exact hr.n
  have mi := mk_int N (by omega)
  have hWH : (Wn : Int) * (Hn : Int) = (N : Int) := by rw [hN, Int.natCast_mul]
  have Hn' := hidA hn
  have HP := fun (w' : World) (h : Ext w w') => hidA (hP.ext h)
  have Hin := hidA hin
  have HN := hidA hN
  obtain ⟨r1, r2, r3, r4, r5, r6, r7, r8, r9⟩ := hr
  clear hn hP hin hN
  go_enter Try.func94, Try.ntmps94
  go_upto_region 1 with fail
  have kR : Bk (w.alloc (.cells #[.int .i64 X, .int .i64 Y, .int .i64 (Wn : Int), .int .i64 (Hn : Int)] 23)) w.heap.size 23 #[.int .i64 X, .int .i64 Y, .int .i64 (Wn : Int), .int .i64 (Hn : Int)] := Bk.new' rfl
  have hx0 := (Ext.refl w).alloc (.cells #[.int .i64 X, .int .i64 Y, .int .i64 (Wn : Int), .int .i64 (Hn : Int)] 23)
  generalize w.alloc (.cells #[.int .i64 X, .int .i64 Y, .int .i64 (Wn : Int), .int .i64 (Hn : Int)] 23) = w0 at *
  generalize hhr : w.heap.size = hR at kR ⊢
  have Hhr := hidA hhr
  clear hhr
  have q2 := kR.cell 2
  have q3 := kR.cell 3
  have q2a := fun o => (kR.alloc o).cell 2
  have q3a := fun o => (kR.alloc o).cell 3
  have hN1 : (N : Int) ≤ 65536 := by omega
  have hN0 : (0 : Int) ≤ (N : Int) := by omega
  go_cut [6, 7] (fun s6 s7 wx => ∃ gn gq : Nat, s6 = Value.slice (some ⟨gn, 0, none⟩) N N ∧ s7 = Value.slice (some ⟨gq, 0, none⟩) N N ∧ NM w0 wx gn gq N (fun k => ngF k 0) (fun _ => 0) ∧ Bk wx hR 23 #[.int .i64 X, .int .i64 Y, .int .i64 (Wn : Int), .int .i64 (Hn : Int)])
  case first =>
    go_region
    all_goals
      go_wp2_with fail
      go_meet
      case rel =>
        apply Exists.intro
        apply Exists.intro
        refine ⟨rfl, rfl, ⟨?k1, ?k2, ?k3, ?k5, ?k6, (by repeat (first | exact Ext.refl _ | assumption | refine Ext.setCell ?_ (by first | (simp; done) | (simp; omega)) _ | refine Ext.drewN ?_ _ | refine Ext.alloc ?_ _ | refine Ext.drew ?_ | refine Ext.trans ?_ (by assumption)))⟩, kR.ext (by repeat (first | exact Ext.refl _ | assumption | refine Ext.setCell ?_ (by first | (simp; done) | (simp; omega)) _ | refine Ext.drewN ?_ _ | refine Ext.alloc ?_ _ | refine Ext.drew ?_ | refine Ext.trans ?_ (by assumption)))⟩
        case k1 => first | (refine Bk.drew (Bk.new' ?_); (first | rfl | (simp; done))) | (refine Bk.drew ((Bk.new' ?_).alloc _); (first | rfl | (simp; done)))
        case k2 => first | (refine Bk.drew (Bk.new' ?_); (first | rfl | (simp; done))) | (refine Bk.drew ((Bk.new' ?_).alloc _); (first | rfl | (simp; done)))
        case k3 => first | omega | (simp; done) | (simp; omega)
        case k5 => first | exact Nat.le_refl _ | omega | (simp; done) | (simp; omega)
        case k6 => first | exact Nat.le_refl _ | omega | (simp; done) | (simp; omega)
  case rest =>
    obtain ⟨gn, gq, rfl, rfl, hM, kR1⟩ := hcut
    clear q2 q3 q2a q3a mi kR hWH
    have Hx0 := hidA hx0
    clear hx0
    go_upto_region 3 with fail
    go_loopw [29] (fun s29 wr => ∃ k : Nat, k ≤ N ∧ s29 = .int .i64 k ∧ NM w0 wr gn gq N (fun j => ngF j k) (fun _ => 0) ∧ Bk wr hR 23 #[.int .i64 X, .int .i64 Y, .int .i64 (Wn : Int), .int .i64 (Hn : Int)]) (fun s29 _ => N - (intOf s29).toNat)
    case atStart => exact ⟨0, Nat.zero_le _, rfl, hM, kR1⟩
    case round =>
      clear hM kR1
      obtain ⟨k, hk, rfl, hM, kR⟩ := hrel
      by_cases hkN : k < N
      · have Hk := hidA hkN
        have c1 := hM.c1 hkN
        have z1 := hM.a.frozen k
        have HM := hM.put1 k (-1)
        rw [ngF_succ] at HM
        have HM := hidA HM
        have kR2 := hidA (kR.far (p := ⟨gn, k, none⟩) (Bk.ne kR hM.a (by decide)) (.int .i64 (-1)))
        have i0 : (0 : Int) ≤ k := by omega
        have i1 : (k : Int) < N := by omega
        clear hM kR hk hkN
        generalize ngF k k = vv at *
        go_wp2
        go_roundw
        case rel => exact ⟨k + 1, Hk.out, (by first | rfl | go_num), HM.out, kR2.out⟩
        case measure => exact nxt_n Hk.out
      · obtain rfl : k = N := by omega
        have hM0 : NM w0 wr gn gq k (fun j => (nrS (inbW X Y Wn far l j) (dsW X Y Wn l j) 0).1) (fun j => (nrS (inbW X Y Wn far l j) (dsW X Y Wn l j) 0).2) := by
          refine ⟨?_, hM.b, hM.ne, hM.b1, hM.b2, hM.x⟩
          have e : intB k (fun j => ngF j k) = intB k (fun j => (nrS (inbW X Y Wn far l j) (dsW X Y Wn l j) 0).1) := by
            unfold intB
            congr 1
            apply List.map_congr_left
            intro j hj
            show Value.int .i64 (if j < k then (-1 : Int) else 0) = _
            rw [if_pos (List.mem_range.1 hj)]
            rfl
          rw [← e]
          exact hM.a
        have HM0 := hidA hM0
        have HkR := hidA kR
        clear hM hM0 kR hk hkN
        go_upto_region 8 with fail
        go_loopw [38] (fun s38 wr => ∃ i : Nat, i ≤ n ∧ s38 = .int .i64 i ∧ NM w0 wr gn gq k (fun j => (nrS (inbW X Y Wn far l j) (dsW X Y Wn l j) i).1) (fun j => (nrS (inbW X Y Wn far l j) (dsW X Y Wn l j) i).2) ∧ Bk wr hR 23 #[.int .i64 X, .int .i64 Y, .int .i64 (Wn : Int), .int .i64 (Hn : Int)]) (fun s38 _ => n - (intOf s38).toNat)
        case atStart => exact ⟨0, Nat.zero_le _, rfl, HM0.out, HkR.out⟩
        case round =>
          clear HM0 HkR
          obtain ⟨i, hi, rfl, hM, kR⟩ := hrel
          by_cases hin : i < n
          · have Hi := hidA hin
            obtain ⟨ad, rfl, hbk, d0, d1⟩ := pt_at ((HP _ (Hx0.out.trans hM.x)).out) (k := i) (by have := Hn'.out; omega)
            have hpi := Hin.out i hin
            obtain ⟨px, py, hpp⟩ : ∃ px py, l.getD i (0, 0) = (px, py) := ⟨_, _, rfl⟩
            rw [hpp] at d0 d1 hpi
            dsimp only at d0 d1
            have Hpp := hidA hpp
            obtain ⟨p1, p2, p3, p4⟩ := hpi
            have i0 : (0 : Int) ≤ i := by omega
            have i1 : (i : Int) < n := by omega
            have i2 : (n : Int) ≤ 65536 := by omega
            clear hpp hbk hi hin
            go_upto_region 10 with fail
            have kP : Bk (wr.alloc (.cells #[.int .i64 px, .int .i64 py] 32)) wr.heap.size 32 #[.int .i64 px, .int .i64 py] := Bk.new' rfl
            have hM1 := hM.step ((Ext.refl wr).alloc (.cells #[.int .i64 px, .int .i64 py] 32))
            have kR1 := kR.alloc (.cells #[.int .i64 px, .int .i64 py] 32)
            clear d0 d1 hM kR
            generalize wr.alloc (.cells #[.int .i64 px, .int .i64 py] 32) = w1 at *
            generalize wr.heap.size = hp at *
            have p0 := kP.cell 0
            have p1' := kP.cell 1
            have g0 := kR1.cell 0
            have g1 := kR1.cell 1
            have g2 := kR1.cell 2
            have g3 := kR1.cell 3
            have hf' : (far : Int) ≤ 40 := by omega
            go_upto_region 11 with fail
            have hf0 : (0 : Int) ≤ (far : Int) := by omega
            obtain ⟨ra, hra⟩ : ∃ ra : Nat, max (py - (far : Int)) Y = Y + (ra : Int) := ⟨(max (py - (far : Int)) Y - Y).toNat, by omega⟩
            obtain ⟨rb, hrb⟩ : ∃ rb : Nat, min (py + (far : Int)) (Y + (Hn : Int) - 1) = Y + (rb : Int) := ⟨(min (py + (far : Int)) (Y + (Hn : Int) - 1) - Y).toNat, by omega⟩
            obtain ⟨ca, hca⟩ : ∃ ca : Nat, max (px - (far : Int)) X = X + (ca : Int) := ⟨(max (px - (far : Int)) X - X).toNat, by omega⟩
            obtain ⟨cb, hcb⟩ : ∃ cb : Nat, min (px + (far : Int)) (X + (Wn : Int) - 1) = X + (cb : Int) := ⟨(min (px + (far : Int)) (X + (Wn : Int) - 1) - X).toNat, by omega⟩
            have hrr : ra ≤ rb + 1 ∧ rb < Hn ∧ ca ≤ cb + 1 ∧ cb < Wn := by omega
            have Hrr := hidA hrr
            have HBx : Hid (∀ r c, r < Hn → c < Wn → inbW X Y Wn far l (r * Wn + c) i = decide (ra ≤ r ∧ r ≤ rb ∧ ca ≤ c ∧ c ≤ cb)) := fun r c h1 h2 => by
              obtain ⟨a, b⟩ := cell_rc (r := r) h2
              unfold inbW cpt
              rw [Hpp.out, a, b, decide_eq_decide]
              dsimp only
              omega
            have Hds : Hid (∀ r c, r < Hn → c < Wn → dsW X Y Wn l (r * Wn + c) i = (X + (c : Int) - px) * (X + (c : Int) - px) + (Y + (r : Int) - py) * (Y + (r : Int) - py)) := fun r c h1 h2 => by
              obtain ⟨a, b⟩ := cell_rc (r := r) h2
              unfold dsW cpt
              rw [Hpp.out, a, b]
            have hM2 : NM w0 w1 gn gq k (fun j => (psW X Y Wn far l i (ra * Wn) j).1) (fun j => (psW X Y Wn far l i (ra * Wn) j).2) := by
              have e := psW_eq (X := X) (Y := Y) (Wn := Wn) (far := far) (ps := l) (i := i) (kc := 0) (kc' := ra * Wn) (Nat.zero_le _) (fun q _ hq => by
                have hW : 0 < Wn := by omega
                have hr1 : q / Wn < ra := (Nat.div_lt_iff_lt_mul hW).2 hq
                have h9 := HBx.out (q / Wn) (q % Wn) (by omega) (Nat.mod_lt _ hW)
                rw [Nat.mul_comm, Nat.div_add_mod] at h9
                rw [h9]
                exact decide_eq_false (by omega))
              refine hM1.congrN (fun j _ => ?_) (fun j _ => ?_)
              · rw [← e, psW_zero]
              · rw [← e, psW_zero]
            have HM2 := hidA hM2
            have HkR := hidA kR1
            have HkP := hidA kP
            rw [hra]
            have hHb : (Hn : Int) ≤ 512 := by omega
            have hWb : (Wn : Int) ≤ 512 := by omega
            clear hM1 hM2 kR1 kP p0 p1' g0 g1 g2 g3 hra
            go_loopw [11] (fun s11 wr => ∃ r : Nat, ra ≤ r ∧ r ≤ rb + 1 ∧ s11 = .int .i64 (Y + (r : Int)) ∧ NM w0 wr gn gq k (fun j => (psW X Y Wn far l i (r * Wn) j).1) (fun j => (psW X Y Wn far l i (r * Wn) j).2) ∧ Bk wr hR 23 #[.int .i64 X, .int .i64 Y, .int .i64 (Wn : Int), .int .i64 (Hn : Int)] ∧ Bk wr hp 32 #[.int .i64 px, .int .i64 py]) (fun s11 _ => (Y + (Hn : Int) + 1 - intOf s11).toNat)
            case atStart => exact ⟨ra, Nat.le_refl _, Hrr.out.1, rfl, HM2.out, HkR.out, HkP.out⟩
            case round =>
              clear HM2 HkR HkP
              obtain ⟨r, hr1, hr2, rfl, hM, kR, kP⟩ := hrel
              have p0 := kP.cell 0
              have p1' := kP.cell 1
              have g0 := kR.cell 0
              have g1 := kR.cell 1
              have g2 := kR.cell 2
              have g3 := kR.cell 3
              have hrH : (r : Int) ≤ (Hn : Int) := by omega
              have hr0 : (0 : Int) ≤ (r : Int) := by omega
              by_cases hrr2 : r ≤ rb
              · have hle : Y + (r : Int) ≤ Y + (rb : Int) := by omega
                have hle2 : (r : Int) ≤ (rb : Int) := by omega
                have Hr1 := hidA hr1
                have Hr2 := hidA hrr2
                have HM := hidA hM
                have HkR := hidA kR
                have HkP := hidA kP
                clear hr1 hr2 hrr2 hM kR kP
                go_upto_region 14 with fail
                have hM3 : NM w0 wr gn gq k (fun j => (psW X Y Wn far l i (r * Wn + ca) j).1) (fun j => (psW X Y Wn far l i (r * Wn + ca) j).2) := by
                  have e := psW_eq (X := X) (Y := Y) (Wn := Wn) (far := far) (ps := l) (i := i) (kc := r * Wn) (kc' := r * Wn + ca) (by omega) (fun q hq1 hq2 => by
                    obtain ⟨c, rfl⟩ : ∃ c, q = r * Wn + c := ⟨q - r * Wn, by omega⟩
                    have := Hrr.out
                    have := Hr2.out
                    rw [HBx.out r c (by omega) (by omega)]
                    exact decide_eq_false (by omega))
                  rw [← e]
                  exact HM.out
                have HM3 := hidA hM3
                clear hM3 p0 p1' g0 g1 g2 g3
                go_loopw [12] (fun s12 wr => ∃ c : Nat, ca ≤ c ∧ c ≤ cb + 1 ∧ s12 = .int .i64 (X + (c : Int)) ∧ NM w0 wr gn gq k (fun j => (psW X Y Wn far l i (r * Wn + c) j).1) (fun j => (psW X Y Wn far l i (r * Wn + c) j).2) ∧ Bk wr hR 23 #[.int .i64 X, .int .i64 Y, .int .i64 (Wn : Int), .int .i64 (Hn : Int)] ∧ Bk wr hp 32 #[.int .i64 px, .int .i64 py]) (fun s12 _ => (X + (Wn : Int) + 1 - intOf s12).toNat)
                case atStart => exact ⟨ca, Nat.le_refl _, Hrr.out.2.2.1, rfl, HM3.out, HkR.out, HkP.out⟩
                case round =>
                  clear HM HkR HkP HM3
                  obtain ⟨c, hc1, hc2, rfl, hM, kR, kP⟩ := hrel
                  have p0 := kP.cell 0
                  have p1' := kP.cell 1
                  have g0 := kR.cell 0
                  have g1 := kR.cell 1
                  have g2 := kR.cell 2
                  have g3 := kR.cell 3
                  have hcW : (c : Int) ≤ (Wn : Int) := by have := Hrr.out; omega
                  have hc0 : (0 : Int) ≤ (c : Int) := by omega
                  by_cases hcc : c ≤ cb
                  · have hce : X + (c : Int) ≤ X + (cb : Int) := by omega
                    have hce2 : (c : Int) ≤ (cb : Int) := by omega
                    have hcW2 : c < Wn := by have := Hrr.out; omega
                    have hrH2 : r < Hn := by have := Hrr.out; have := Hr2.out; omega
                    have hkc : r * Wn + c < k := by
                      rw [HN.out]
                      have h9 : (r + 1) * Wn ≤ Hn * Wn := Nat.mul_le_mul_right _ (by omega)
                      rw [Nat.add_mul, Nat.one_mul, Nat.mul_comm Hn] at h9
                      omega
                    have hib : inbW X Y Wn far l (r * Wn + c) i = true := by
                      rw [HBx.out r c hrH2 hcW2]
                      have := Hr1.out
                      have := Hr2.out
                      exact decide_eq_true (by omega)
                    have hds := Hds.out r c hrH2 hcW2
                    have hmi : (r : Int) * (Wn : Int) = ((r * Wn : Nat) : Int) := by rw [Int.natCast_mul]
                    have hm0 : (0 : Int) ≤ ((r * Wn : Nat) : Int) := by omega
                    have hm1 : ((r * Wn : Nat) : Int) ≤ 65536 := by omega
                    have hE : ((r * Wn : Nat) : Int) + (X + (c : Int)) - X = ((r * Wn + c : Nat) : Int) := by omega
                    obtain ⟨dx, hdx⟩ : ∃ dx : Int, X + (c : Int) - px = dx := ⟨_, rfl⟩
                    obtain ⟨dy, hdy⟩ : ∃ dy : Int, Y + (r : Int) - py = dy := ⟨_, rfl⟩
                    have hb1 : -1024 ≤ dx ∧ dx ≤ 1024 := by omega
                    have hb2 : -1024 ≤ dy ∧ dy ≤ 1024 := by omega
                    obtain ⟨qx, hqx, hqx0, hqx1⟩ : ∃ qx : Int, dx * dx = qx ∧ 0 ≤ qx ∧ qx ≤ 1048576 := ⟨dx * dx, rfl, by have := sq_bd hb1.1 hb1.2; omega, by have := sq_bd hb1.1 hb1.2; omega⟩
                    obtain ⟨qy, hqy, hqy0, hqy1⟩ : ∃ qy : Int, dy * dy = qy ∧ 0 ≤ qy ∧ qy ≤ 1048576 := ⟨dy * dy, rfl, by have := sq_bd hb2.1 hb2.2; omega, by have := sq_bd hb2.1 hb2.2; omega⟩
                    rw [hdx, hdy, hqx, hqy] at hds
                    obtain ⟨b1, b2⟩ := hb1
                    obtain ⟨b3, b4⟩ := hb2
                    have hk1 : (0 : Int) ≤ ((r * Wn + c : Nat) : Int) := by omega
                    have hk2 : ((r * Wn + c : Nat) : Int) < (k : Int) := by omega
                    have Hkc := hidA hkc
                    have Hib := hidA hib
                    have Hds2 := hidA hds
                    have HM := hidA hM
                    have HkR := hidA kR
                    have HkP := hidA kP
                    have Hc1 := hidA hc1
                    have Hc2 := hidA hcc
                    clear hc1 hc2 hcc hcW2 hrH2 hkc hib hds hM kR kP
                    have HW9 := hidA (show wrap64 (wrap64 (wrap64 ((Y + (r : Int) - Y) * (Wn : Int)) + (X + (c : Int))) - X) = ((r * Wn + c : Nat) : Int) from by
                      have e1 : (Y + (r : Int) - Y) = (r : Int) := by omega
                      rw [e1, hmi, IntWalk.wrap64_in (((r * Wn : Nat) : Int)) (by omega), IntWalk.wrap64_in (((r * Wn : Nat) : Int) + (X + (c : Int))) (by omega), IntWalk.wrap64_in (((r * Wn : Nat) : Int) + (X + (c : Int)) - X) (by omega), hE])
                    clear hmi hE
                    generalize hkk : r * Wn + c = kc at *
                    have Hkk := hidA hkk
                    clear hkk
                    go_upto_region 16 with fail
                    go_quiet (fail)
                    rw [HW9.out]
                    have hxn : Ext wr (wr.drewN nq) := (by repeat (first | exact Ext.refl _ | assumption | refine Ext.setCell ?_ (by first | (simp; done) | (simp; omega)) _ | refine Ext.drewN ?_ _ | refine Ext.alloc ?_ _ | refine Ext.drew ?_ | refine Ext.trans ?_ (by assumption)))
                    have HM5 := hidA (HM.out.step hxn)
                    have kR5 := HkR.out.ext hxn
                    have kP5 := HkP.out.ext hxn
                    clear p0 p1' g0 g1 g2 g3 hdx hdy hqx hqy HM HkR HkP hxn
                    generalize wr.drewN nq = w5 at *
                    have c1 := HM5.out.c1 Hkc.out
                    have c2 := HM5.out.c2 Hkc.out
                    by_cases hA : (psW X Y Wn far l i kc kc).1 < 0
                    · have dA : decide ((psW X Y Wn far l i kc kc).1 < 0) = true := decide_eq_true hA
                      have hup := psW_upd Hib.out (.inl hA)
                      rw [Hds2.out] at hup
                      have z1 := HM5.out.a.frozen kc
                      have m1 := HM5.out.put1 kc (i : Int)
                      have z2 := m1.b.frozen kc
                      have q2 := m1.c2 Hkc.out
                      have z3 := HM5.out.b.frozen kc
                      have m2 := m1.put2 kc (qx + qy)
                      rw [hup.1, hup.2] at m2
                      have HM6 := hidA m2
                      have kR6 := hidA ((kR5.far (p := ⟨gn, kc, none⟩) (Bk.ne kR5 HM5.out.a (by decide)) (.int .i64 (i : Int))).far (p := ⟨gq, kc, none⟩) (Bk.ne (kR5.far (p := ⟨gn, kc, none⟩) (Bk.ne kR5 HM5.out.a (by decide)) (.int .i64 (i : Int))) m1.b (by decide)) (.int .i64 (qx + qy)))
                      have kP6 := hidA ((kP5.far (p := ⟨gn, kc, none⟩) (Bk.ne kP5 HM5.out.a (by decide)) (.int .i64 (i : Int))).far (p := ⟨gq, kc, none⟩) (Bk.ne (kP5.far (p := ⟨gn, kc, none⟩) (Bk.ne kP5 HM5.out.a (by decide)) (.int .i64 (i : Int))) m1.b (by decide)) (.int .i64 (qx + qy)))
                      clear hup m1 m2 kR5 kP5 HM5
                      generalize (psW X Y Wn far l i kc kc).1 = a at *
                      generalize (psW X Y Wn far l i kc kc).2 = b at *
                      go_wp2
                      clear c1 c2 z1 z2 q2 z3
                      go_roundw
                      case rel => exact ⟨c + 1, Nat.le_succ_of_le Hc1.out, Nat.succ_le_succ Hc2.out, (by rw [show ((c + 1 : Nat) : Int) = (c : Int) + 1 from rfl, ← Int.add_assoc]), (by rw [← Nat.add_assoc, Hkk.out]; exact HM6.out), kR6.out, kP6.out⟩
                      case measure => exact nxt_r (by have := Hc2.out; have := Hrr.out; omega)
                    · have dA : decide ((psW X Y Wn far l i kc kc).1 < 0) = false := decide_eq_false hA
                      by_cases hB : qx + qy < (psW X Y Wn far l i kc kc).2
                      · have dB : decide (qx + qy < (psW X Y Wn far l i kc kc).2) = true := decide_eq_true hB
                        have hup := psW_upd Hib.out (.inr (by rw [Hds2.out]; exact hB))
                        rw [Hds2.out] at hup
                        have z1 := HM5.out.a.frozen kc
                        have m1 := HM5.out.put1 kc (i : Int)
                        have z2 := m1.b.frozen kc
                        have q2 := m1.c2 Hkc.out
                        have z3 := HM5.out.b.frozen kc
                        have m2 := m1.put2 kc (qx + qy)
                        rw [hup.1, hup.2] at m2
                        have HM6 := hidA m2
                        have kR6 := hidA ((kR5.far (p := ⟨gn, kc, none⟩) (Bk.ne kR5 HM5.out.a (by decide)) (.int .i64 (i : Int))).far (p := ⟨gq, kc, none⟩) (Bk.ne (kR5.far (p := ⟨gn, kc, none⟩) (Bk.ne kR5 HM5.out.a (by decide)) (.int .i64 (i : Int))) m1.b (by decide)) (.int .i64 (qx + qy)))
                        have kP6 := hidA ((kP5.far (p := ⟨gn, kc, none⟩) (Bk.ne kP5 HM5.out.a (by decide)) (.int .i64 (i : Int))).far (p := ⟨gq, kc, none⟩) (Bk.ne (kP5.far (p := ⟨gn, kc, none⟩) (Bk.ne kP5 HM5.out.a (by decide)) (.int .i64 (i : Int))) m1.b (by decide)) (.int .i64 (qx + qy)))
                        clear hup m1 m2 kR5 kP5 HM5
                        generalize (psW X Y Wn far l i kc kc).1 = a at *
                        generalize (psW X Y Wn far l i kc kc).2 = b at *
                        go_wp2
                        clear c1 c2 z1 z2 q2 z3
                        go_roundw
                        case rel => exact ⟨c + 1, Nat.le_succ_of_le Hc1.out, Nat.succ_le_succ Hc2.out, (by rw [show ((c + 1 : Nat) : Int) = (c : Int) + 1 from rfl, ← Int.add_assoc]), (by rw [← Nat.add_assoc, Hkk.out]; exact HM6.out), kR6.out, kP6.out⟩
                        case measure => exact nxt_r (by have := Hc2.out; have := Hrr.out; omega)
                      · have dB : decide (qx + qy < (psW X Y Wn far l i kc kc).2) = false := decide_eq_false hB
                        have hup := psW_stay (X := X) (Y := Y) (Wn := Wn) (far := far) (ps := l) (i := i) (kc := kc) (by rw [Hds2.out]; omega)
                        have HM6 := hidA HM5.out
                        rw [hup] at HM6
                        have kR6 := hidA kR5
                        have kP6 := hidA kP5
                        clear hup kR5 kP5 HM5
                        generalize (psW X Y Wn far l i kc kc).1 = a at *
                        generalize (psW X Y Wn far l i kc kc).2 = b at *
                        go_wp2
                        clear c1 c2
                        go_roundw
                        case rel => exact ⟨c + 1, Nat.le_succ_of_le Hc1.out, Nat.succ_le_succ Hc2.out, (by rw [show ((c + 1 : Nat) : Int) = (c : Int) + 1 from rfl, ← Int.add_assoc]), (by rw [← Nat.add_assoc, Hkk.out]; exact HM6.out), kR6.out, kP6.out⟩
                        case measure => exact nxt_r (by have := Hc2.out; have := Hrr.out; omega)
                  · obtain rfl : c = cb + 1 := by omega
                    have hM4 : NM w0 wr gn gq k (fun j => (psW X Y Wn far l i ((r + 1) * Wn) j).1) (fun j => (psW X Y Wn far l i ((r + 1) * Wn) j).2) := by
                      have hcw := Hrr.out
                      have e := psW_eq (X := X) (Y := Y) (Wn := Wn) (far := far) (ps := l) (i := i) (kc := r * Wn + (cb + 1)) (kc' := (r + 1) * Wn) (by rw [Nat.add_mul]; omega) (fun q hq1 hq2 => by
                        rw [Nat.add_mul, Nat.one_mul] at hq2
                        obtain ⟨c, rfl⟩ : ∃ c, q = r * Wn + c := ⟨q - r * Wn, by omega⟩
                        have := Hr2.out
                        rw [HBx.out r c (by omega) (by omega)]
                        exact decide_eq_false (by omega))
                      rw [← e]
                      exact hM
                    have HM4 := hidA hM4
                    have HkR := hidA kR
                    have HkP := hidA kP
                    have hnc : ¬ X + ((cb + 1 : Nat) : Int) ≤ X + (cb : Int) := by omega
                    have hnc2 : ¬ ((cb : Int) + 1 ≤ (cb : Int)) := by omega
                    have hnc3 : ¬ X + ((cb : Int) + 1) ≤ X + (cb : Int) := by omega
                    have hcW3 : (cb : Int) + 1 ≤ (Wn : Int) := by have := Hrr.out; omega
                    clear hM hM4 kR kP hcc hc1 hc2
                    go_wp2
                    go_roundw
                    case rel => exact ⟨r + 1, Nat.le_succ_of_le Hr1.out, Nat.succ_le_succ Hr2.out, (by rw [show ((r + 1 : Nat) : Int) = (r : Int) + 1 from rfl, ← Int.add_assoc]), HM4.out, HkR.out, HkP.out⟩
                    case measure => exact nxt_r (by have := Hr2.out; have := Hrr.out; omega)
              · obtain rfl : r = rb + 1 := by omega
                have hM5 : NM w0 wr gn gq k (fun j => (nrS (inbW X Y Wn far l j) (dsW X Y Wn l j) (i + 1)).1) (fun j => (nrS (inbW X Y Wn far l j) (dsW X Y Wn l j) (i + 1)).2) := by
                  have hcw := Hrr.out
                  have hW : 0 < Wn := by omega
                  have hle : (rb + 1) * Wn ≤ k := by
                    rw [HN.out, Nat.mul_comm Wn Hn]
                    exact Nat.mul_le_mul_right _ (by omega)
                  have e := psW_eq (X := X) (Y := Y) (Wn := Wn) (far := far) (ps := l) (i := i) (kc := (rb + 1) * Wn) (kc' := k) hle (fun q hq1 hq2 => by
                    have a1 : q / Wn < Hn := by
                      rw [Nat.div_lt_iff_lt_mul hW, Nat.mul_comm]
                      rw [HN.out] at hq2
                      exact hq2
                    have a2 : rb + 1 ≤ q / Wn := (Nat.le_div_iff_mul_le hW).2 hq1
                    have h9 := HBx.out (q / Wn) (q % Wn) a1 (Nat.mod_lt _ hW)
                    rw [Nat.mul_comm, Nat.div_add_mod] at h9
                    rw [h9]
                    exact decide_eq_false (by omega))
                  rw [e] at hM
                  refine hM.congrN (fun j hj => ?_) (fun j hj => ?_)
                  · unfold psW
                    rw [if_pos hj]
                  · unfold psW
                    rw [if_pos hj]
                have HM5 := hidA hM5
                have HkR := hidA kR
                have hnr : ¬ Y + ((rb + 1 : Nat) : Int) ≤ Y + (rb : Int) := by omega
                have hnr2 : ¬ ((rb : Int) + 1 ≤ (rb : Int)) := by omega
                have hnr3 : ¬ Y + ((rb : Int) + 1) ≤ Y + (rb : Int) := by omega
                clear hM hM5 kR kP hrr2 hr1 hr2
                go_wp2
                go_roundw
                case rel => exact ⟨i + 1, Hi.out, (by first | rfl | go_num), HM5.out, HkR.out⟩
                case measure => exact nxt_n Hi.out
          · obtain rfl : i = n := by omega
            have HM := hidA (⟨hM.a, hM.b, hM.ne, by have := Hx0.out.size; have := hM.b1; omega, by have := Hx0.out.size; have := hM.b2; omega, Hx0.out.trans hM.x⟩ : NM w wr gn gq k (fun j => (nrS (inbW X Y Wn far l j) (dsW X Y Wn l j) i).1) (fun j => (nrS (inbW X Y Wn far l j) (dsW X Y Wn l j) i).2))
            clear hM hi hin kR
            go_wp2
            go_ret2
            exact ⟨gn, gq, rfl, HM.out⟩
end Go.Proofs.Ytpgdinpckolfpaa

namespace Go.Proofs.Ytpgdinpckolfpaa
open Go.RowKit
attribute [local go_sem ↓] Go.wp_at_zero Go.wp_at_succ
attribute [local go_sem] run_store_float

theorem place_cpt (X Y : Int) (Wn k : Nat) : placeK X Y (Wn : Int) k = cpt X Y Wn k := by simp [placeK, cpt]
theorem dsW_bd {X Y : Int} {Wn Hn N k j : Nat} {ps : List (Int × Int)} (hr : Reg X Y Wn Hn) (hN : N = Wn * Hn) (hk : k < N) (hin : InR X Y Wn Hn (ps.getD j (0, 0)).1 (ps.getD j (0, 0)).2) :
    0 ≤ dsW X Y Wn ps k j ∧ dsW X Y Wn ps k j ≤ 2097152 ∧ -1024 ≤ (ps.getD j (0, 0)).1 - (cpt X Y Wn k).1 ∧ (ps.getD j (0, 0)).1 - (cpt X Y Wn k).1 ≤ 1024 ∧ -1024 ≤ (ps.getD j (0, 0)).2 - (cpt X Y Wn k).2 ∧ (ps.getD j (0, 0)).2 - (cpt X Y Wn k).2 ≤ 1024 := by
  obtain ⟨c1, c2, c3, c4⟩ := cpt_in hr hN hk
  obtain ⟨p1, p2, p3, p4⟩ := hin
  have := hr.w2
  have := hr.h2
  unfold dsW cpt
  dsimp only
  generalize X + ((k % Wn : Nat) : Int) = cx at *
  generalize Y + ((k / Wn : Nat) : Int) = cy at *
  generalize (ps.getD j (0, 0)).1 = px at *
  generalize (ps.getD j (0, 0)).2 = py at *
  have a1 := sq_bd (d := cx - px) (by omega) (by omega)
  have a2 := sq_bd (d := cy - py) (by omega) (by omega)
  omega
theorem rfS_nil {ds ds' : Nat → Int} : ∀ i, (∀ j, j < i → ds j = ds' j) → rfS ds i = rfS ds' i
  | 0, _ => rfl
  | i + 1, h => by
    show ite _ _ _ = ite _ _ _
    rw [rfS_nil i (fun j hj => h j (by omega)), h i (by omega)]
theorem rfS_in' {ds : Nat → Int} {n : Nat} (h0 : ∀ j, j < n → 0 ≤ ds j) (hn : 0 < n) : ∃ b m : Nat, b < n ∧ rfS ds n = ((b : Int), (m : Int)) ∧ (m : Int) = ds b := by
  have e := rfS_nil (ds := ds) (ds' := fun j => if j < n then ds j else 0) n (fun j hj => by rw [if_pos hj])
  obtain ⟨b, b1, b2, _, _⟩ := rfS_spec (fun j => if j < n then ds j else 0) (fun j => by
    split
    · rename_i h; exact h0 j h
    · exact Int.le_refl _) n hn
  rw [if_pos b1] at b2
  have h9 := h0 b b1
  refine ⟨b, (ds b).toNat, b1, ?_, by omega⟩
  rw [e, b2, show (((ds b).toNat : Nat) : Int) = ds b by omega]
theorem sq_flip (a b : Int) : (a - b) * (a - b) = (b - a) * (b - a) := by
  have e : a - b = -(b - a) := by omega
  rw [e, Int.neg_mul_neg]
theorem rfS_at (ds : Nat → Int) (i : Nat) : rfS ds (i + 1) = if (rfS ds i).2 < 0 ∨ ds i < (rfS ds i).2 then ((i : Int), ds i) else rfS ds i := rfl
set_option maxRecDepth 100000 in
set_option maxHeartbeats 12800000 in
theorem BuiltOf_any (X Y : Int) (Wn Hn : Nat) (adF : Addr) (N c : Nat) (lf : List Nat) (B : Option Addr) (n d : Nat) (l : List (Int × Int)) (adB : Addr) (cb : Nat) (lb : List Nat) (wide soft k : Nat) (w : World) (hr : Reg X Y Wn Hn) (hN : N = Wn * Hn) (hlf : lf.length = N) (hh : ∀ j, j < N → Bd 20 (lf.getD j 0)) (hV : Rd w (some adF) (flt lf)) (hn : l.length = n) (hP : Rd w B (ptv l)) (hin : ∀ j, j < n → InR X Y Wn Hn (l.getD j (0, 0)).1 (l.getD j (0, 0)).2) (hn1 : 1 ≤ n) (hn6 : n ≤ 65536) (hlb : lb.length = n) (hB : Rd w (some adB) (flt lb)) (hbb : ∀ j, j < n → Bd 20 (lb.getD j 0)) (hw : wide ≤ 20) (hs1 : 1 ≤ soft) (hs2 : soft ≤ 20) (hk : k < N) :
    Calls Try.prog 56 #[.agg #[.int .i64 X, .int .i64 Y, .int .i64 (Wn : Int), .int .i64 (Hn : Int), .slice (some adF) N c], .slice B n d, .slice (some adB) n cb, .int .i64 (wide : Int), .int .i64 (soft : Int), .int .i64 (k : Int)] w fun e w' => e = .returned (.float .f32 (valW wide soft (fun j => lb.getD j 0) (lf.getD k 0) (rfS (dsW X Y Wn l k) n))) ∧ Ext w w' := by
  have hk6 : k ≤ 65536 := by have := hr.n; omega
  have HPl := fun (w : World) => hidA (Place_any X Y Wn Hn k w hr.ok hk6)
  rw [place_cpt] at HPl
  have Hds := hidA (fun j (hj : j < n) => dsW_bd hr hN hk (hin j hj))
  have Hd0 : Hid (∀ j, dsW X Y Wn l k j = ((l.getD j (0, 0)).1 - (cpt X Y Wn k).1) * ((l.getD j (0, 0)).1 - (cpt X Y Wn k).1) + ((l.getD j (0, 0)).2 - (cpt X Y Wn k).2) * ((l.getD j (0, 0)).2 - (cpt X Y Wn k).2)) := fun j => by
    unfold dsW
    rw [sq_flip, sq_flip (cpt X Y Wn k).2]
  have Hdsb := Hds
  have Hsp := hidA (rfS_in' (ds := dsW X Y Wn l k) (n := n) (fun j hj => (Hds.out j hj).1) hn1)
  have Hx1 := hr.x1
  have Hx2 := hr.x2
  have Hy1 := hr.y1
  have Hy2 := hr.y2
  have hci := cpt_in hr hN hk
  have hfv := hh k hk
  have HbB := hidA hbb
  have HVc : Hid (∀ w', Ext w w' → w'.cell? (adF.add k) = some (.float .f32 (lf.getD k 0))) := fun w' h => by
    obtain ⟨ad', e, _, hcv⟩ := (hV.ext h).at (k := k) (by simp [flt]; omega)
    injection e with e
    subst e
    rw [hcv k _ (flt_get (by omega : k < lf.length))]
    simp [List.getD_eq_getElem?_getD, show k < lf.length by omega]
  have HBc : Hid (∀ w' j, j < n → Ext w w' → w'.cell? (adB.add j) = some (.float .f32 (lb.getD j 0))) := fun w' j hj h => by
    obtain ⟨ad', e, _, hcv⟩ := (hB.ext h).at (k := j) (by simp [flt]; omega)
    injection e with e
    subst e
    rw [hcv j _ (flt_get (by omega : j < lb.length))]
    simp [List.getD_eq_getElem?_getD, show j < lb.length by omega]
  have hkN : (k : Int) < N := by omega
  have hk0 : (0 : Int) ≤ k := by omega
  obtain ⟨cx, cy, hcc⟩ : ∃ cx cy, cpt X Y Wn k = (cx, cy) := ⟨_, _, rfl⟩
  rw [hcc] at HPl Hds Hd0
  dsimp only at HPl Hds Hd0
  have hcx : cx = X + ((k % Wn : Nat) : Int) ∧ cy = Y + ((k / Wn : Nat) : Int) := by
    unfold cpt at hcc
    injection hcc with e1 e2
    exact ⟨e1.symm, e2.symm⟩
  obtain ⟨ci1, ci2, ci3, ci4⟩ := hci
  rw [← hcx.1] at ci1 ci2
  rw [← hcx.2] at ci3 ci4
  have Hn' := hidA hn
  have HP := fun (w' : World) (h : Ext w w') => hidA (hP.ext h)
  have hw2 := hr.w2
  have hh2 := hr.h2
  obtain ⟨ds, hdse⟩ : ∃ ds, ds = dsW X Y Wn l k := ⟨_, rfl⟩
  rw [← hdse] at Hds Hd0 Hsp Hdsb
  have Hdse := hidA hdse
  clear hr hN hlf hh hV hn hP hin hlb hB hbb hk hcc hcx hdse
  go_enter Try.func56, Try.ntmps56
  go_upto_region 1 with fail
  have kF : Bk (w.alloc (.cells #[.int .i64 X, .int .i64 Y, .int .i64 (Wn : Int), .int .i64 (Hn : Int), .slice (some adF) N c] 26)) w.heap.size 26 #[.int .i64 X, .int .i64 Y, .int .i64 (Wn : Int), .int .i64 (Hn : Int), .slice (some adF) N c] := Bk.new' rfl
  have hx0 := (Ext.refl w).alloc (.cells #[.int .i64 X, .int .i64 Y, .int .i64 (Wn : Int), .int .i64 (Hn : Int), .slice (some adF) N c] 26)
  generalize w.alloc (.cells #[.int .i64 X, .int .i64 Y, .int .i64 (Wn : Int), .int .i64 (Hn : Int), .slice (some adF) N c] 26) = w0 at *
  generalize w.heap.size = hf at *
  have f0 := kF.cell 0
  have f1 := kF.cell 1
  have f2 := kF.cell 2
  have f3 := kF.cell 3
  go_upto_region 4 with (go_at_call 33; refine ((HPl _).out).mono ?_; rintro e w1 ⟨rfl, hx1⟩)
  have hxa := hidA (hx0.trans hx1)
  have kF1 := hidA (kF.ext hx1)
  clear f0 f1 f2 f3 kF hx0 hx1 HPl
  go_loopw [15, 16, 30] (fun s15 s16 s30 wr => ∃ i : Nat, i ≤ n ∧ s30 = .int .i64 i ∧ s15 = .int .i64 (rfS ds i).1 ∧ s16 = .int .i64 (rfS ds i).2 ∧ Ext w1 wr) (fun _ _ s30 _ => n - (intOf s30).toNat)
  case atStart => exact ⟨0, Nat.zero_le _, rfl, rfl, rfl, Ext.refl _⟩
  case round =>
    obtain ⟨i, hi, rfl, rfl, rfl, hx⟩ := hrel
    by_cases hin : i < n
    · have Hi := hidA hin
      obtain ⟨ad, rfl, hbk, d0, d1⟩ := pt_at ((HP _ (hxa.out.trans hx)).out) (k := i) (by have := Hn'.out; omega)
      obtain ⟨z1, z2, z3, z4, z5, z6⟩ := Hds.out i hin
      have hd0 := Hd0.out i
      have hst := rfS_at ds i
      obtain ⟨px, py, hpp⟩ : ∃ px py, l.getD i (0, 0) = (px, py) := ⟨_, _, rfl⟩
      rw [hpp] at d0 d1 z3 z4 z5 z6 hd0
      dsimp only at d0 d1 z3 z4 z5 z6 hd0
      obtain ⟨dx, hdx⟩ : ∃ dx : Int, px - cx = dx := ⟨_, rfl⟩
      obtain ⟨dy, hdy⟩ : ∃ dy : Int, py - cy = dy := ⟨_, rfl⟩
      rw [hdx] at z3 z4 hd0
      rw [hdy] at z5 z6 hd0
      have hpx : -8388608 ≤ px ∧ px ≤ 8388608 := by omega
      have hpy : -8388608 ≤ py ∧ py ≤ 8388608 := by omega
      obtain ⟨hpx1, hpx2⟩ := hpx
      obtain ⟨hpy1, hpy2⟩ := hpy
      obtain ⟨qx, hqx, hqx0, hqx1⟩ : ∃ qx : Int, dx * dx = qx ∧ 0 ≤ qx ∧ qx ≤ 1048576 := ⟨dx * dx, rfl, (sq_bd z3 z4).1, (sq_bd z3 z4).2⟩
      obtain ⟨qy, hqy, hqy0, hqy1⟩ : ∃ qy : Int, dy * dy = qy ∧ 0 ≤ qy ∧ qy ≤ 1048576 := ⟨dy * dy, rfl, (sq_bd z5 z6).1, (sq_bd z5 z6).2⟩
      rw [hqx, hqy] at hd0
      rw [hd0] at hst
      have i0 : (0 : Int) ≤ i := by omega
      have i1 : (i : Int) < n := by omega
      have i2 : (n : Int) ≤ 65536 := by omega
      have Hst := hidA hst
      clear hst hd0 hpp hbk hi hin z1 z2
      go_upto_region 6 with fail
      have kP : Bk (wr.alloc (.cells #[.int .i64 px, .int .i64 py] 32)) wr.heap.size 32 #[.int .i64 px, .int .i64 py] := Bk.new' rfl
      have hx2 := hx.alloc (.cells #[.int .i64 px, .int .i64 py] 32)
      clear d0 d1 hx
      generalize wr.alloc (.cells #[.int .i64 px, .int .i64 py] 32) = w2 at *
      generalize wr.heap.size = hp at *
      have p0 := kP.cell 0
      have p1 := kP.cell 1
      have Hx2 := hidA hx2
      clear hx2 kP
      by_cases hA : (rfS ds i).2 < 0
      · have dA : decide ((rfS ds i).2 < 0) = true := decide_eq_true hA
        have HN := hidA (Hst.out.trans (if_pos (.inl hA)))
        clear hA Hst
        generalize (rfS ds i).2 = b at *
        generalize (rfS ds i).1 = a at *
        go_wp2
        go_roundw
        case rel => exact ⟨i + 1, Hi.out, (by first | rfl | go_num), by rw [HN.out], by rw [HN.out], Hx2.out⟩
        case measure => exact nxt_n Hi.out
      · have dA : decide ((rfS ds i).2 < 0) = false := decide_eq_false hA
        by_cases hBq : qx + qy < (rfS ds i).2
        · have dB : decide (qx + qy < (rfS ds i).2) = true := decide_eq_true hBq
          have HN := hidA (Hst.out.trans (if_pos (.inr hBq)))
          clear hA hBq Hst
          generalize (rfS ds i).2 = b at *
          generalize (rfS ds i).1 = a at *
          go_wp2
          go_roundw
          case rel => exact ⟨i + 1, Hi.out, (by first | rfl | go_num), by rw [HN.out], by rw [HN.out], Hx2.out⟩
          case measure => exact nxt_n Hi.out
        · have dB : decide (qx + qy < (rfS ds i).2) = false := decide_eq_false hBq
          have HN := hidA (Hst.out.trans (if_neg (by omega)))
          clear hA hBq Hst
          obtain ⟨b, hb⟩ : ∃ b, b = (rfS ds i).2 := ⟨_, rfl⟩
          obtain ⟨a, ha⟩ : ∃ a, a = (rfS ds i).1 := ⟨_, rfl⟩
          rw [← hb] at dA dB ⊢
          rw [← ha]
          have Hb := hidA hb
          have Ha := hidA ha
          clear hb ha
          go_wp2
          go_roundw
          case rel => exact ⟨i + 1, Hi.out, (by first | rfl | go_num), by rw [HN.out, Ha.out], by rw [HN.out, Hb.out], Hx2.out⟩
          case measure => exact nxt_n Hi.out
    · obtain rfl : n = i := by omega
      obtain ⟨b, m, hb1, hs0, hs3⟩ := Hsp.out
      rw [hs0]
      dsimp only
      have hxw := hxa.out.trans hx
      have kFw := kF1.out.ext hx
      have hmb : m ≤ 2097152 := by
        have h9 := (Hdsb.out b hb1).2.1
        omega
      have HE : Hid (valW wide soft (fun j => lb.getD j 0) (lf.getD k 0) ((b : Int), (m : Int)) = valW wide soft (fun j => lb.getD j 0) (lf.getD k 0) (rfS (dsW X Y Wn l k) n)) := by
        show _ = _
        rw [← Hdse.out, hs0]
      obtain ⟨W2, hW2, hW2a, hW2b⟩ : ∃ W2 : Int, (wide : Int) * (wide : Int) = W2 ∧ 0 ≤ W2 ∧ W2 ≤ 1048576 := ⟨(wide : Int) * (wide : Int), rfl, (sq_bd (by omega) (by omega)).1, (sq_bd (by omega) (by omega)).2⟩
      have cB : ∀ w', Ext wr w' → w'.cell? (adB.add b) = some (.float .f32 (lb.getD b 0)) := fun w' h => HBc.out w' b hb1 (hxw.trans h)
      have cF : ∀ w', Ext wr w' → w'.cell? (adF.add k) = some (.float .f32 (lf.getD k 0)) := fun w' h => HVc.out w' (hxw.trans h)
      have f4 : ∀ w', Ext wr w' → w'.cell? ⟨hf, 4, none⟩ = some (.slice (some adF) N c) := fun w' h => (kFw.ext h).cell 4
      have b0 : (0 : Int) ≤ b := by omega
      have b1 : (b : Int) < n := by omega
      have m0 : (0 : Int) ≤ m := by omega
      have m1 : (m : Int) ≤ 2097152 := by omega
      have hbb := HbB.out b hb1
      have Hxw := hidA hxw
      clear Hsp Hds Hd0 hi hin HP hxw kFw hx hs0 hs3 Hdsb HbB HBc HVc Hdse hxa kF1
      by_cases hle : (m : Int) ≤ W2
      · have dle : decide ((m : Int) ≤ W2) = true := decide_eq_true hle
        have HE2 := hidA (show lb.getD b 0 = _ from (show lb.getD b 0 = valW wide soft (fun j => lb.getD j 0) (lf.getD k 0) ((b : Int), (m : Int)) from by
          unfold valW
          rw [if_pos (by rw [hW2]; exact hle)]
          rfl).trans HE.out)
        have cB1 := cB _ (Ext.refl _)
        clear HE cB cF f4 hle
        generalize lb.getD b 0 = vb at *
        go_wp2
        go_ret
        exact ⟨by rw [← HE2.out]; rfl, Hxw.out⟩
      · have dle : decide ((m : Int) ≤ W2) = false := decide_eq_false hle
        have hwm : wide * wide < m := by
          have h9 : ((wide * wide : Nat) : Int) < (m : Int) := by rw [Int.natCast_mul, hW2]; omega
          exact Int.ofNat_lt.1 h9
        have hm60 : m < 2 ^ 60 := Nat.lt_of_le_of_lt hmb (by decide)
        obtain ⟨s1, s2, s3, s4, _⟩ := sh_ok hw hs1 hs2 hm60 hwm
        have HRo := fun (w : World) => hidA (refRoot_any (int_bd' hm60) (int_pos m) (by omega) w)
        have r1 := fun (w : World) => run_float_arith (P := Try.prog) w .sub 27 .f32 _ _ _ s1
        have r2 := fun (w : World) => run_float_arith (P := Try.prog) w .quo 27 .f32 _ _ _ s2
        have HE3 : Hid (valW wide soft (fun j => lb.getD j 0) (lf.getD k 0) ((b : Int), (m : Int)) = if lt (shF wide soft m) 1065353216 = true then mixB (lb.getD b 0) (lf.getD k 0) (easeB (shF wide soft m)) else lf.getD k 0) := by
          show valW _ _ _ _ _ = _
          unfold valW
          rw [if_neg (by rw [hW2]; exact hle)]
          rfl
        have hFs := bd_Fin s3 (by omega)
        clear s1 s2 hle hwm hm60 hmb
        generalize shF wide soft m = sF at *
        generalize fsub (rootB (floatOfInt .f32 (m : Int))) (floatOfInt .f32 (wide : Int)) = sd at *
        generalize rootB (floatOfInt .f32 (m : Int)) = ro at *
        cases hlt : lt sF 1065353216
        · have hlt' : (FloatKind.f32.format.order sF 1065353216 == some .lt) = false := hlt
          rw [hlt] at HE3
          have HE2 := hidA (HE3.out.symm.trans HE.out)
          simp only [Bool.false_eq_true, if_false] at HE2
          have cF1 := cF _ (Ext.refl _)
          have f41 := f4 _ (Ext.refl _)
          clear HE HE3 cB cF f4 hlt s3 s4 hFs
          generalize hvf : lf.getD k 0 = vf at *
          have Hvf := hidA hvf
          clear hvf
          go_wp2_with (go_at_call 99; refine ((HRo _).out).mono ?_; rintro e w5 ⟨rfl, hw5⟩; subst hw5)
          go_ret
          exact ⟨by rw [Hvf.out, ← HE2.out]; rfl, Hxw.out⟩
        · have hlt' : (FloatKind.f32.format.order sF 1065353216 == some .lt) = true := hlt
          rw [hlt, if_pos rfl] at HE3
          have HE2 := hidA (HE3.out.symm.trans HE.out)
          have hs0b := share_bd hFs s4 hlt
          have HEa := fun (w : World) => hidA (easeOf_any hs0b w)
          obtain ⟨x1, x2, x3, _⟩ := mix6_ok hbb hfv (ease_ok hs0b).2.2.2.2
          have r3 := fun (w : World) => run_float_arith (P := Try.prog) w .sub 27 .f32 _ _ _ x1
          have r4 := fun (w : World) => run_float_arith (P := Try.prog) w .mul 27 .f32 _ _ _ x2
          have r5 := fun (w : World) => run_float_arith (P := Try.prog) w .add 27 .f32 _ _ _ x3
          clear HE HE3 hlt s3 s4 hFs hs0b x1 x2 x3
          generalize mixB (lb.getD b 0) (lf.getD k 0) (easeB sF) = rz at *
          generalize fmul (fsub (lf.getD k 0) (lb.getD b 0)) (easeB sF) = ry at *
          generalize fsub (lf.getD k 0) (lb.getD b 0) = rx at *
          generalize easeB sF = es at *
          generalize lb.getD b 0 = vb at *
          generalize hvf : lf.getD k 0 = vf at *
          have Hvf := hidA hvf
          clear hvf
          go_upto_region 14 with (go_at_call 99; refine ((HRo _).out).mono ?_; rintro e w5 ⟨rfl, hw5⟩; subst hw5)
          refine wp_region_noPanic ?_
          refine wp_region_held_drew (S := fun w' => Ext w5 w') (by kernel_rfl) ?_ (fun hHeld => ?_)
          · (repeat (first | exact Ext.refl _ | assumption | refine Ext.setCell ?_ (by first | (simp; done) | (simp; omega)) _ | refine Ext.drewN ?_ _ | refine Ext.alloc ?_ _ | refine Ext.drew ?_ | refine Ext.trans ?_ (by assumption)))
          refine wpAnyH_take (i := 0) (oi := ?o1x0) (v := ?v1x0) ?hi1x0 (by kernel_rfl) ?hf1x0 ?hr1x0 (fun _ _ _ h => h) ?hy1x0 (by assumption) ?rest1x0
          case hi1x0 => (simp only [List.getElem?_toArray, List.getElem?_cons_zero]; exact rfl)
          case hf1x0 => kernel_rfl
          case hr1x0 => kernel_rfl
          case hy1x0 => (refine Or.inl ⟨by rfl, ?_⟩; intro w hSw; (try dsimp only at hSw); go_simp; try with_reducible rfl)
          simp only [put_mk, List.set_cons_succ, List.set_cons_zero]
          refine wpAnyH_take (i := 1) (oi := ?o1x1) (v := ?v1x1) ?hi1x1 (by kernel_rfl) ?hf1x1 ?hr1x1 (fun _ _ _ h => h) ?hy1x1 (by assumption) ?rest1x1
          case hi1x1 => (simp only [List.getElem?_toArray, List.getElem?_cons_succ, List.getElem?_cons_zero]; exact rfl)
          case hf1x1 => kernel_rfl
          case hr1x1 => kernel_rfl
          case hy1x1 => (refine Or.inl ⟨by rfl, ?_⟩; intro w hSw; (try dsimp only at hSw); go_simp; try with_reducible rfl)
          simp only [put_mk, List.set_cons_succ, List.set_cons_zero]
          refine wpAnyH_take (i := 2) (oi := ?o1x2) (v := ?v1x2) ?hi1x2 (by kernel_rfl) ?hf1x2 ?hr1x2 (fun _ _ _ h => h) ?hy1x2 (by assumption) ?rest1x2
          case hi1x2 => (simp only [List.getElem?_toArray, List.getElem?_cons_succ, List.getElem?_cons_zero]; exact rfl)
          case hf1x2 => kernel_rfl
          case hr1x2 => kernel_rfl
          case hy1x2 => (refine Or.inl ⟨by rfl, ?_⟩; intro w hSw; (try dsimp only at hSw); go_simp; try with_reducible rfl)
          simp only [put_mk, List.set_cons_succ, List.set_cons_zero]
          refine wpAnyH_take (i := 3) (oi := ?o1x3) (v := ?v1x3) ?hi1x3 (by kernel_rfl) ?hf1x3 ?hr1x3 (fun _ _ _ h => h) ?hy1x3 (by assumption) ?rest1x3
          case hi1x3 => (simp only [List.getElem?_toArray, List.getElem?_cons_succ, List.getElem?_cons_zero]; exact rfl)
          case hf1x3 => kernel_rfl
          case hr1x3 => kernel_rfl
          case hy1x3 => (refine Or.inl ⟨by rfl, ?_⟩; intro w hSw; (try dsimp only at hSw); go_simp; try with_reducible rfl)
          simp only [put_mk, List.set_cons_succ, List.set_cons_zero]
          refine wpAnyH_take (i := 4) (oi := ?o1x4) (v := ?v1x4) ?hi1x4 (by kernel_rfl) ?hf1x4 ?hr1x4 (fun _ _ _ h => h) ?hy1x4 (by assumption) ?rest1x4
          case hi1x4 => (simp only [List.getElem?_toArray, List.getElem?_cons_succ, List.getElem?_cons_zero]; exact rfl)
          case hf1x4 => kernel_rfl
          case hr1x4 => kernel_rfl
          case hy1x4 => (refine Or.inl ⟨by rfl, ?_⟩; intro w hSw; (try dsimp only at hSw); go_simp; try with_reducible rfl)
          simp only [put_mk, List.set_cons_succ, List.set_cons_zero]
          refine wpAnyH_take (i := 5) (oi := ?o1x5) (v := ?v1x5) ?hi1x5 (by kernel_rfl) ?hf1x5 ?hr1x5 (fun _ _ _ h => h) ?hy1x5 (by assumption) ?rest1x5
          case hi1x5 => (simp only [List.getElem?_toArray, List.getElem?_cons_succ, List.getElem?_cons_zero]; exact rfl)
          case hf1x5 => kernel_rfl
          case hr1x5 => kernel_rfl
          case hy1x5 => (refine Or.inl ⟨by rfl, ?_⟩; intro w hSw; (try dsimp only at hSw); go_simp; try with_reducible rfl)
          simp only [put_mk, List.set_cons_succ, List.set_cons_zero]
          refine wpAnyH_take (i := 6) (oi := ?o1x6) (v := ?v1x6) ?hi1x6 (by kernel_rfl) ?hf1x6 ?hr1x6 (fun _ _ _ h => h) ?hy1x6 (by assumption) ?rest1x6
          case hi1x6 => (simp only [List.getElem?_toArray, List.getElem?_cons_succ, List.getElem?_cons_zero]; exact rfl)
          case hf1x6 => kernel_rfl
          case hr1x6 => kernel_rfl
          case hy1x6 => (refine Or.inl ⟨by rfl, ?_⟩; intro w hSw; (try dsimp only at hSw); go_simp; try with_reducible rfl)
          simp only [put_mk, List.set_cons_succ, List.set_cons_zero]
          refine wpAnyH_take (i := 7) (oi := ?o1x7) (v := ?v1x7) ?hi1x7 (by kernel_rfl) ?hf1x7 ?hr1x7 (fun _ _ _ h => h) ?hy1x7 (by assumption) ?rest1x7
          case hi1x7 => (simp only [List.getElem?_toArray, List.getElem?_cons_succ, List.getElem?_cons_zero]; exact rfl)
          case hf1x7 => kernel_rfl
          case hr1x7 => kernel_rfl
          case hy1x7 => (refine Or.inl ⟨by rfl, ?_⟩; intro w hSw; (try dsimp only at hSw); go_simp; try with_reducible rfl)
          simp only [put_mk, List.set_cons_succ, List.set_cons_zero]
          refine wpAnyH_take (i := 8) (oi := ?o1x8) (v := ?v1x8) ?hi1x8 (by kernel_rfl) ?hf1x8 ?hr1x8 (fun _ _ _ h => h) ?hy1x8 (by assumption) ?rest1x8
          case hi1x8 => (simp only [List.getElem?_toArray, List.getElem?_cons_succ, List.getElem?_cons_zero]; exact rfl)
          case hf1x8 => kernel_rfl
          case hr1x8 => kernel_rfl
          case hy1x8 => (refine Or.inl ⟨by rfl, ?_⟩; intro w hSw; (try dsimp only at hSw); go_simp; try with_reducible rfl)
          simp only [put_mk, List.set_cons_succ, List.set_cons_zero]
          refine wpAnyH_take (i := 9) (oi := ?o1x9) (v := ?v1x9) ?hi1x9 (by kernel_rfl) ?hf1x9 ?hr1x9 (fun _ _ _ h => h) ?hy1x9 (by assumption) ?rest1x9
          case hi1x9 => (simp only [List.getElem?_toArray, List.getElem?_cons_succ, List.getElem?_cons_zero]; exact rfl)
          case hf1x9 => kernel_rfl
          case hr1x9 => kernel_rfl
          case hy1x9 => (refine Or.inl ⟨by rfl, ?_⟩; intro w hSw; (try dsimp only at hSw); go_simp; try with_reducible rfl)
          simp only [put_mk, List.set_cons_succ, List.set_cons_zero]
          refine wpAnyH_take (i := 10) (oi := ?o1x10) (v := ?v1x10) ?hi1x10 (by kernel_rfl) ?hf1x10 ?hr1x10 (fun _ _ _ h => h) ?hy1x10 (by assumption) ?rest1x10
          case hi1x10 => (simp only [List.getElem?_toArray, List.getElem?_cons_succ, List.getElem?_cons_zero]; exact rfl)
          case hf1x10 => kernel_rfl
          case hr1x10 => kernel_rfl
          case hy1x10 => (refine Or.inl ⟨by rfl, ?_⟩; intro w hSw; (try dsimp only at hSw); go_simp; try with_reducible rfl)
          simp only [put_mk, List.set_cons_succ, List.set_cons_zero]
          refine wpAnyH_take (i := 11) (oi := ?o1x11) (v := ?v1x11) ?hi1x11 (by kernel_rfl) ?hf1x11 ?hr1x11 (fun _ _ _ h => h) ?hy1x11 (by assumption) ?rest1x11
          case hi1x11 => (simp only [List.getElem?_toArray, List.getElem?_cons_succ, List.getElem?_cons_zero]; exact rfl)
          case hf1x11 => kernel_rfl
          case hr1x11 => kernel_rfl
          case hy1x11 => (refine Or.inl ⟨by rfl, ?_⟩; intro w hSw; (try dsimp only at hSw); go_simp; try with_reducible rfl)
          simp only [put_mk, List.set_cons_succ, List.set_cons_zero]
          refine wpAnyH_take (i := 12) (oi := ?o1x12) (v := ?v1x12) ?hi1x12 (by kernel_rfl) ?hf1x12 ?hr1x12 (fun _ _ _ h => h) ?hy1x12 (by assumption) ?rest1x12
          case hi1x12 => (simp only [List.getElem?_toArray, List.getElem?_cons_succ, List.getElem?_cons_zero]; exact rfl)
          case hf1x12 => kernel_rfl
          case hr1x12 => kernel_rfl
          case hy1x12 => (refine Or.inl ⟨by rfl, ?_⟩; intro w hSw; (try dsimp only at hSw); go_simp; try with_reducible rfl)
          simp only [put_mk, List.set_cons_succ, List.set_cons_zero]
          refine wpAnyH_take (i := 13) (oi := ?o1x13) (v := ?v1x13) ?hi1x13 (by kernel_rfl) ?hf1x13 ?hr1x13 (fun _ _ _ h => h) ?hy1x13 (by assumption) ?rest1x13
          case hi1x13 => (simp only [List.getElem?_toArray, List.getElem?_cons_succ, List.getElem?_cons_zero]; exact rfl)
          case hf1x13 => kernel_rfl
          case hr1x13 => kernel_rfl
          case hy1x13 => (refine Or.inl ⟨by rfl, ?_⟩; intro w hSw; (try dsimp only at hSw); go_simp; try with_reducible rfl)
          simp only [put_mk, List.set_cons_succ, List.set_cons_zero]
          refine wpAnyH_take (i := 14) (oi := ?o1x14) (v := ?v1x14) ?hi1x14 (by kernel_rfl) ?hf1x14 ?hr1x14 (fun _ _ _ h => h) ?hy1x14 (by assumption) ?rest1x14
          case hi1x14 => (simp only [List.getElem?_toArray, List.getElem?_cons_succ, List.getElem?_cons_zero]; exact rfl)
          case hf1x14 => kernel_rfl
          case hr1x14 => kernel_rfl
          case hy1x14 => (refine Or.inl ⟨by rfl, ?_⟩; intro w hSw; (try dsimp only at hSw); go_simp; try with_reducible rfl)
          simp only [put_mk, List.set_cons_succ, List.set_cons_zero]
          refine wpAnyH_ready (rs := [15]) (by kernel_rfl) (by simp) ?_
          refine AllReadyH.cons (o := ?o1x15) ?hi1x15 (fun K hK => ?_) AllReadyH.nil
          case hi1x15 => (simp only [List.getElem?_toArray, List.getElem?_cons_succ, List.getElem?_cons_zero]; exact rfl)
          go_simp
          go_at_call 100
          refine ((HEa _).out).mono ?_
          rintro e wl ⟨rfl, hwl⟩
          subst wl
          refine hK.out _ _ ?_ (fun hHeld => ?_)
          · (repeat (first | exact Ext.refl _ | assumption | refine Ext.setCell ?_ (by first | (simp; done) | (simp; omega)) _ | refine Ext.drewN ?_ _ | refine Ext.alloc ?_ _ | refine Ext.drew ?_ | refine Ext.trans ?_ (by assumption)))
          clear hK K
          refine wpAnyH_take (i := 16) (oi := ?o1x16) (v := ?v1x16) ?hi1x16 (by kernel_rfl) ?hf1x16 ?hr1x16 (fun _ _ _ h => h) ?hy1x16 (by assumption) ?rest1x16
          case hi1x16 => (simp only [List.getElem?_toArray, List.getElem?_cons_succ, List.getElem?_cons_zero]; exact rfl)
          case hf1x16 => kernel_rfl
          case hr1x16 => kernel_rfl
          case hy1x16 => (refine Or.inl ⟨by rfl, ?_⟩; intro w hSw; (try dsimp only at hSw); go_simp; try with_reducible rfl)
          simp only [put_mk, List.set_cons_succ, List.set_cons_zero]
          refine wpAnyH_take (i := 17) (oi := ?o1x17) (v := ?v1x17) ?hi1x17 (by kernel_rfl) ?hf1x17 ?hr1x17 (fun _ _ _ h => h) ?hy1x17 (by assumption) ?rest1x17
          case hi1x17 => (simp only [List.getElem?_toArray, List.getElem?_cons_succ, List.getElem?_cons_zero]; exact rfl)
          case hf1x17 => kernel_rfl
          case hr1x17 => kernel_rfl
          case hy1x17 => (refine Or.inl ⟨by rfl, ?_⟩; intro w hSw; (try dsimp only at hSw); go_simp; try with_reducible rfl)
          simp only [put_mk, List.set_cons_succ, List.set_cons_zero]
          refine wpAnyH_take (i := 18) (oi := ?o1x18) (v := ?v1x18) ?hi1x18 (by kernel_rfl) ?hf1x18 ?hr1x18 (fun _ _ _ h => h) ?hy1x18 (by assumption) ?rest1x18
          case hi1x18 => (simp only [List.getElem?_toArray, List.getElem?_cons_succ, List.getElem?_cons_zero]; exact rfl)
          case hf1x18 => kernel_rfl
          case hr1x18 => kernel_rfl
          case hy1x18 => (refine Or.inl ⟨by rfl, ?_⟩; intro w hSw; (try dsimp only at hSw); go_simp; try with_reducible rfl)
          simp only [put_mk, List.set_cons_succ, List.set_cons_zero]
          refine wpAnyH_done (by kernel_rfl) ?_ _
          refine NoPanic.normal ?_
          have hend := Hxw.out.trans hHeld
          clear hHeld cB cF f4
          go_wp2
          go_ret
          exact ⟨by rw [Hvf.out, ← HE2.out]; rfl, hend⟩
end Go.Proofs.Ytpgdinpckolfpaa

namespace Go.Proofs.Ytpgdinpckolfpaa
open Go.RowKit
attribute [local go_sem ↓] Go.wp_at_zero Go.wp_at_succ
attribute [local go_sem] run_store_float

def fwE (X Y W H : Int) (lf : List Nat) (l : List (Int × Int)) : Int := if fieldE X Y W H lf ≠ 0 then fieldE X Y W H lf else wayE (outP X Y W H) l
def rngB (wide soft : Int) : Bool := decide (wide < 0 ∨ 20 < wide ∨ soft < 1 ∨ 20 < soft)
/-- the error of Build -/
def bldE (X Y W H : Int) (lf : List Nat) (l : List (Int × Int)) (lb : List Nat) (wide soft : Int) : Int :=
  if fwE X Y W H lf l ≠ 0 then fwE X Y W H lf l else if lb.length ≠ l.length then 2 else if numE lb ≠ 0 then numE lb else if rngB wide soft = true then 3 else 0
set_option maxRecDepth 100000 in
set_option maxHeartbeats 6400000 in
theorem Build_bad (X Y W H : Int) (A : Option Addr) (N c : Nat) (lf : List Nat) (B : Option Addr) (q d : Nat) (l : List (Int × Int)) (C : Option Addr) (m cb : Nat) (lb : List Nat) (wide soft : Int) (w : World) (hn : lf.length = N) (hV : Rd w A (flt lf)) (hb : N ≤ 140737488351232) (hq : l.length = q) (hP : Rd w B (ptv l)) (hm : lb.length = m) (hB : Rd w C (flt lb)) (hmb : m ≤ 140737488351232) (hE : bldE X Y W H lf l lb wide soft ≠ 0) :
    Calls Try.prog 54 #[.agg #[.int .i64 X, .int .i64 Y, .int .i64 W, .int .i64 H, .slice A N c], .slice B q d, .slice C m cb, .int .i64 wide, .int .i64 soft] w fun e w' => e = .returned (.tuple #[.agg #[.int .i64 0, .int .i64 0, .int .i64 0, .int .i64 0, .slice none 0 0], .int .i64 (bldE X Y W H lf l lb wide soft)]) ∧ Ext w w' := by
  have HO := fun (w' : World) (h : Ext w w') => hidA (onField_any X Y W H A N c lf B q d l w' hn (hV.ext h) hb hq (hP.ext h))
  have HH := fun (w' : World) (h : Ext w w') => hidA (heights_any C m cb lb w' hm (hB.ext h) hmb)
  have HE : Hid (bldE X Y W H lf l lb wide soft = if fwE X Y W H lf l ≠ 0 then fwE X Y W H lf l else if m ≠ q then 2 else if numE lb ≠ 0 then numE lb else if rngB wide soft = true then 3 else 0) := by
    show _ = _
    unfold bldE
    rw [hm, hq]
  rw [show (if fieldE X Y W H lf ≠ 0 then fieldE X Y W H lf else wayE (outP X Y W H) l) = fwE X Y W H lf l from rfl] at HO
  generalize bldE X Y W H lf l lb wide soft = E at *
  generalize fwE X Y W H lf l = fe at *
  clear hn hV hb hq hP hm hB hmb
  go_enter Try.func54, Try.ntmps54
  go_upto_region 1 with fail
  have kF0 : Bk ((w.alloc (.cells #[.int .i64 X, .int .i64 Y, .int .i64 W, .int .i64 H, .slice A N c] 26)).alloc (.cells #[.int .i64 0, .int .i64 0, .int .i64 0, .int .i64 0, .slice none 0 0] 26)) w.heap.size 26 #[.int .i64 X, .int .i64 Y, .int .i64 W, .int .i64 H, .slice A N c] := (Bk.new' rfl).alloc _
  have kZ0 : Bk ((w.alloc (.cells #[.int .i64 X, .int .i64 Y, .int .i64 W, .int .i64 H, .slice A N c] 26)).alloc (.cells #[.int .i64 0, .int .i64 0, .int .i64 0, .int .i64 0, .slice none 0 0] 26)) (w.heap.size + 1) 26 #[.int .i64 0, .int .i64 0, .int .i64 0, .int .i64 0, .slice none 0 0] := Bk.new' (by simp)
  have hx0 : Ext w ((w.alloc (.cells #[.int .i64 X, .int .i64 Y, .int .i64 W, .int .i64 H, .slice A N c] 26)).alloc (.cells #[.int .i64 0, .int .i64 0, .int .i64 0, .int .i64 0, .slice none 0 0] 26)) := ((Ext.refl w).alloc _).alloc _
  generalize (w.alloc (.cells #[.int .i64 X, .int .i64 Y, .int .i64 W, .int .i64 H, .slice A N c] 26)).alloc (.cells #[.int .i64 0, .int .i64 0, .int .i64 0, .int .i64 0, .slice none 0 0] 26) = w0 at *
  have f0 := kF0.cell 0
  have f1 := kF0.cell 1
  have f2 := kF0.cell 2
  have f3 := kF0.cell 3
  have f4 := kF0.cell 4
  by_cases h1 : fe = 0
  · have HE2 := hidA (HE.out.trans (if_neg (by simpa using h1)))
    subst h1
    clear HE
    by_cases h2 : m = q
    · have HE3 := hidA (HE2.out.trans (if_neg (by simpa using h2)))
      clear HE2
      subst h2
      have h2' : ((m : Int) != (m : Int)) = false := by simp
      by_cases h3 : numE lb = 0
      · have HE4 := hidA (HE3.out.trans (if_neg (by simpa using h3)))
        rw [h3] at HH
        have h4 : rngB wide soft = true := by
          cases h : rngB wide soft
          · rw [h] at HE4
            exact absurd HE4.out hE
          · rfl
        have HE5 := hidA (HE4.out.trans (if_pos h4))
        have h5 : (wide < 0) ∨ (¬ wide < 0 ∧ 20 < wide) ∨ (¬ wide < 0 ∧ ¬ 20 < wide ∧ soft < 1) ∨ (¬ wide < 0 ∧ ¬ 20 < wide ∧ ¬ soft < 1 ∧ 20 < soft) := by
          unfold rngB at h4
          have := of_decide_eq_true h4
          omega
        have e3 := HE5.out
        subst e3
        clear HE3 HE4 HE5 h3 h4 hE
        rcases h5 with a1 | ⟨a1, a2⟩ | ⟨a1, a2, a3⟩ | ⟨a1, a2, a3, a4⟩
        all_goals
          go_wp2_with (first | (go_at_call 84; refine ((HO _ hx0).out).mono ?_; rintro e w1 ⟨rfl, hx1⟩; have kZ1 := kZ0.ext hx1; have z0 := kZ1.cell 0; have y0 := kZ1.frozen 0; have z1 := kZ1.cell 1; have y1 := kZ1.frozen 1; have z2 := kZ1.cell 2; have y2 := kZ1.frozen 2; have z3 := kZ1.cell 3; have y3 := kZ1.frozen 3; have z4 := kZ1.cell 4; have y4 := kZ1.frozen 4) | (go_at_call 59; refine ((HH _ (hx0.trans hx1)).out).mono ?_; rintro e w2 ⟨rfl, hw2⟩; subst hw2))
          have hxz := hx0.trans hx1
          refine bodyPost_ret (v := .tuple #[.agg #[.int .i64 0, .int .i64 0, .int .i64 0, .int .i64 0, .slice none 0 0], .int .i64 3]) (by simp [results, Try.results54, go_sem, z0, z1, z2, z3, z4]) rfl ⟨rfl, ?_⟩
          repeat (first | (with_reducible exact hxz) | (with_reducible refine Ext.setCell ?_ (by simp) _))
      · have HE4 := hidA (HE3.out.trans (if_pos (by simpa using h3)))
        have h3' : (numE lb != 0) = true := by simpa using h3
        have e3 := HE4.out
        subst e3
        generalize hz : numE lb = z at *
        have Hz := hidA hz
        clear HE3 HE4 h3 hE hz
        go_wp2_with (first | (go_at_call 84; refine ((HO _ hx0).out).mono ?_; rintro e w1 ⟨rfl, hx1⟩; have kZ1 := kZ0.ext hx1; have z0 := kZ1.cell 0; have y0 := kZ1.frozen 0; have z1 := kZ1.cell 1; have y1 := kZ1.frozen 1; have z2 := kZ1.cell 2; have y2 := kZ1.frozen 2; have z3 := kZ1.cell 3; have y3 := kZ1.frozen 3; have z4 := kZ1.cell 4; have y4 := kZ1.frozen 4) | (go_at_call 59; refine ((HH _ (hx0.trans hx1)).out).mono ?_; rintro e w2 ⟨rfl, hw2⟩; subst hw2))
        have hxz := hx0.trans hx1
        refine bodyPost_ret (v := .tuple #[.agg #[.int .i64 0, .int .i64 0, .int .i64 0, .int .i64 0, .slice none 0 0], .int .i64 z]) (by simp [results, Try.results54, go_sem, z0, z1, z2, z3, z4]) rfl ⟨by rw [Hz.out], ?_⟩
        repeat (first | (with_reducible exact hxz) | (with_reducible refine Ext.setCell ?_ (by simp) _))
    · have HE3 := hidA (HE2.out.trans (if_pos h2))
      have h2' : ((m : Int) != (q : Int)) = true := by simpa using fun e : (m : Int) = q => h2 (by omega)
      have e3 := HE3.out
      subst e3
      clear HE2 HE3 h2 hE
      go_wp2_with (go_at_call 84; refine ((HO _ hx0).out).mono ?_; rintro e w1 ⟨rfl, hx1⟩; have kZ1 := kZ0.ext hx1; have z0 := kZ1.cell 0; have y0 := kZ1.frozen 0; have z1 := kZ1.cell 1; have y1 := kZ1.frozen 1; have z2 := kZ1.cell 2; have y2 := kZ1.frozen 2; have z3 := kZ1.cell 3; have y3 := kZ1.frozen 3; have z4 := kZ1.cell 4; have y4 := kZ1.frozen 4)
      have hxz := hx0.trans hx1
      refine bodyPost_ret (v := .tuple #[.agg #[.int .i64 0, .int .i64 0, .int .i64 0, .int .i64 0, .slice none 0 0], .int .i64 2]) (by simp [results, Try.results54, go_sem, z0, z1, z2, z3, z4]) rfl ⟨rfl, ?_⟩
      repeat (first | (with_reducible exact hxz) | (with_reducible refine Ext.setCell ?_ (by simp) _))
  · have HE2 := hidA (HE.out.trans (if_pos h1))
    have h1' : (fe != 0) = true := by simpa using h1
    have e3 := HE2.out
    subst e3
    clear HE HE2 h1
    go_wp2_with (go_at_call 84; refine ((HO _ hx0).out).mono ?_; rintro e w1 ⟨rfl, hx1⟩; have kZ1 := kZ0.ext hx1; have z0 := kZ1.cell 0; have y0 := kZ1.frozen 0; have z1 := kZ1.cell 1; have y1 := kZ1.frozen 1; have z2 := kZ1.cell 2; have y2 := kZ1.frozen 2; have z3 := kZ1.cell 3; have y3 := kZ1.frozen 3; have z4 := kZ1.cell 4; have y4 := kZ1.frozen 4)
    have hxz := hx0.trans hx1
    refine bodyPost_ret (v := .tuple #[.agg #[.int .i64 0, .int .i64 0, .int .i64 0, .int .i64 0, .slice none 0 0], .int .i64 E]) (by simp [results, Try.results54, go_sem, z0, z1, z2, z3, z4]) rfl ⟨rfl, ?_⟩
    repeat (first | (with_reducible exact hxz) | (with_reducible refine Ext.setCell ?_ (by simp) _))
/-- what Build returns where its arguments are right -/
def BldPost (X Y : Int) (Wn Hn N : Nat) (v : List Nat) (w : World) (e : Ending) (w' : World) : Prop :=
  ∃ g cap, Rd w' (some ⟨g, 0, none⟩) (flt v) ∧ Ext w w' ∧
    (v.all hgtB = true ∧ e = .returned (.tuple #[.agg #[.int .i64 X, .int .i64 Y, .int .i64 (Wn : Int), .int .i64 (Hn : Int), .slice (some ⟨g, 0, none⟩) N cap], .int .i64 0]) ∨ v.all hgtB = false ∧ e = .returned (.tuple #[.agg #[.int .i64 0, .int .i64 0, .int .i64 0, .int .i64 0, .slice none 0 0], .int .i64 3]))
theorem FX.bkB {w0 w : World} {g cap N : Nat} {f : Nat → Nat} (h : FX w0 g cap N f w) : ∃ cur, Bk w g 27 cur := by
  obtain ⟨cur, hc⟩ := h.c
  exact ⟨cur, hc.b⟩
theorem nrS_nil {inb : Nat → Bool} {ds ds' : Nat → Int} : ∀ i, (∀ j, j < i → ds j = ds' j) → nrS inb ds i = nrS inb ds' i
  | 0, _ => rfl
  | i + 1, h => by
    show ite _ _ _ = ite _ _ _
    rw [nrS_nil i (fun j hj => h j (by omega)), h i (by omega)]
theorem bld_eq' {wide soft n : Nat} {inb : Nat → Bool} {ds : Nat → Int} {bed : Nat → Nat} {v : Nat} (hw : wide ≤ 20) (h1 : 1 ≤ soft) (hs : soft ≤ 20) (h0 : ∀ j, j < n → 0 ≤ ds j) (hb : ∀ j, j < n → ds j ≤ 2097152)
    (hT : ∀ j, j < n → inb j = false → ((wide + soft + 1 : Nat) : Int) * ((wide + soft + 1 : Nat) : Int) ≤ ds j) (hn : 0 < n) : bldW wide soft bed v (nrS inb ds n) = valW wide soft bed v (rfS ds n) := by
  obtain ⟨dt, hdt⟩ : ∃ dt : Nat → Int, dt = fun j => if j < n then ds j else 0 := ⟨_, rfl⟩
  have key : ∀ j, j < n → ds j = dt j := fun j hj => by rw [hdt]; show _ = ite _ _ _; rw [if_pos hj]
  rw [nrS_nil n key, rfS_nil n key]
  refine bld_eq hw h1 hs (fun j => ?_) (fun j => ?_) (fun j hj hi => by rw [← key j hj]; exact hT j hj hi) hn
  · rw [hdt]
    show (0 : Int) ≤ ite _ _ _
    split
    · rename_i h; exact h0 j h
    · exact Int.le_refl _
  · rw [hdt]
    show (ite _ _ _ : Int) < _
    split
    · rename_i h
      exact Int.lt_of_le_of_lt (hb j h) (by decide)
    · decide
theorem sq_ge {F d : Int} (h0 : 0 ≤ F) (h : F ≤ d ∨ d ≤ -F) : F * F ≤ d * d := by
  rcases h with h | h
  · exact Int.mul_le_mul h h h0 (by omega)
  · have e : d * d = (-d) * (-d) := by rw [Int.neg_mul_neg]
    rw [e]
    exact Int.mul_le_mul (by omega) (by omega) h0 (by omega)
theorem far_out {X Y : Int} {Wn far k j : Nat} {ps : List (Int × Int)} (h : inbW X Y Wn far ps k j = false) : ((far + 1 : Nat) : Int) * ((far + 1 : Nat) : Int) ≤ dsW X Y Wn ps k j := by
  unfold inbW at h
  have h9 := of_decide_eq_false h
  unfold dsW
  generalize (cpt X Y Wn k).1 = cx at *
  generalize (cpt X Y Wn k).2 = cy at *
  generalize (ps.getD j (0, 0)).1 = px at *
  generalize (ps.getD j (0, 0)).2 = py at *
  have hF : (0 : Int) ≤ ((far + 1 : Nat) : Int) := by omega
  have e : ((far + 1 : Nat) : Int) = (far : Int) + 1 := rfl
  have n1 : 0 ≤ (cx - px) * (cx - px) := by
    rcases Int.le_total 0 (cx - px) with h | h
    · exact Int.mul_nonneg h h
    · rw [sq_flip]; exact Int.mul_nonneg (by omega) (by omega)
  have n2 : 0 ≤ (cy - py) * (cy - py) := by
    rcases Int.le_total 0 (cy - py) with h | h
    · exact Int.mul_nonneg h h
    · rw [sq_flip]; exact Int.mul_nonneg (by omega) (by omega)
  have hc : (((far + 1 : Nat) : Int) ≤ cx - px ∨ cx - px ≤ -((far + 1 : Nat) : Int)) ∨ (((far + 1 : Nat) : Int) ≤ cy - py ∨ cy - py ≤ -((far + 1 : Nat) : Int)) := by
    rw [e]
    clear n1 n2
    omega
  rcases hc with hc | hc
  · have := sq_ge hF hc
    omega
  · have := sq_ge hF hc
    omega
/-- what Build holds while it stores -/
structure BM (w0 w : World) (hf hz ho g cap N gn gq : Nat) (F : Array Value) (O : Array Value) (f : Nat → Nat) (nr sq : Nat → Int) : Prop where
  kF : Bk w hf 26 F
  kZ : Bk w hz 26 #[.int .i64 0, .int .i64 0, .int .i64 0, .int .i64 0, .slice none 0 0]
  kO : Bk w ho 26 O
  kN : Bk w gn 3 (intB N nr)
  kQ : Bk w gq 3 (intB N sq)
  c : FX w0 g cap N f w
  b : w0.heap.size ≤ g
section
variable {w0 w : World} {hf hz ho g cap N gn gq : Nat} {F O : Array Value} {f : Nat → Nat} {nr sq : Nat → Int}
theorem BM.step (h : BM w0 w hf hz ho g cap N gn gq F O f nr sq) {w' : World} (hx : Ext w w') : BM w0 w' hf hz ho g cap N gn gq F O f nr sq := ⟨h.kF.ext hx, h.kZ.ext hx, h.kO.ext hx, h.kN.ext hx, h.kQ.ext hx, h.c.step hx, h.b⟩
theorem BM.put (h : BM w0 w hf hz ho g cap N gn gq F O f nr sq) (k x : Nat) : BM w0 (w.setCell ⟨g, k, none⟩ (.float .f32 x)) hf hz ho g cap N gn gq F O (updF f k x) nr sq := by
  obtain ⟨cur, kc⟩ := h.c.bkB
  exact ⟨h.kF.far (Bk.ne h.kF kc (by decide)) _, h.kZ.far (Bk.ne h.kZ kc (by decide)) _, h.kO.far (Bk.ne h.kO kc (by decide)) _, h.kN.far (Bk.ne h.kN kc (by decide)) _, h.kQ.far (Bk.ne h.kQ kc (by decide)) _, h.c.put h.b k x, h.b⟩
end
def cellXB (w : World) (a : Addr) : Nat := match w.cell? a with
  | some (.float .f32 b) => b
  | _ => 0
theorem cellXB_of {w : World} {a : Addr} {b : Nat} (h : w.cell? a = some (.float .f32 b)) : w.cell? a = some (.float .f32 (cellXB w a)) := by
  unfold cellXB
  rw [h]
/-- what it holds within a region that stores the cell k -/
def QB (w0 : World) (hf hz ho g cap N gn gq : Nat) (F O : Array Value) (f : Nat → Nat) (k : Nat) (nr sq : Nat → Int) (w : World) : Prop := ∃ x, BM w0 w hf hz ho g cap N gn gq F O (updF f k x) nr sq
theorem QB.ext {w0 w w' : World} {hf hz ho g cap N gn gq : Nat} {F O : Array Value} {f : Nat → Nat} {k : Nat} {nr sq : Nat → Int} (h : QB w0 hf hz ho g cap N gn gq F O f k nr sq w) (hx : Ext w w') : QB w0 hf hz ho g cap N gn gq F O f k nr sq w' := let ⟨x, h⟩ := h; ⟨x, h.step hx⟩
theorem QB.set {w0 w : World} {hf hz ho g cap N gn gq : Nat} {F O : Array Value} {f : Nat → Nat} {k : Nat} {nr sq : Nat → Int} (h : QB w0 hf hz ho g cap N gn gq F O f k nr sq w) (y : Nat) : QB w0 hf hz ho g cap N gn gq F O f k nr sq (w.setCell ⟨g, k, none⟩ (.float .f32 y)) := by
  obtain ⟨x, h⟩ := h
  have h1 := h.put k y
  have e : updF (updF f k x) k y = updF f k y := by
    funext j
    unfold updF
    split <;> rfl
  rw [e] at h1
  exact ⟨y, h1⟩
theorem QB.of {w0 w : World} {hf hz ho g cap N gn gq : Nat} {F O : Array Value} {f : Nat → Nat} {k : Nat} {nr sq : Nat → Int} (h : BM w0 w hf hz ho g cap N gn gq F O f nr sq) : QB w0 hf hz ho g cap N gn gq F O f k nr sq w := ⟨f k, by
  have e : updF f k (f k) = f := by
    funext j
    unfold updF
    split
    · rename_i h; rw [h]
    · rfl
  rw [e]
  exact h⟩
/-- the first k cells are done -/
def dnF (va lv : Nat → Nat) (k j : Nat) : Nat := if j < k then va j else lv j
theorem dnF_put (va lv : Nat → Nat) (k : Nat) : updF (dnF va lv k) k (va k) = dnF va lv (k + 1) := by
  funext j
  unfold updF dnF
  by_cases h1 : j = k
  · subst h1
    rw [if_pos rfl, if_pos (by omega)]
  · rw [if_neg h1]
    by_cases h2 : j < k
    · rw [if_pos h2, if_pos (by omega)]
    · rw [if_neg h2, if_neg (by omega)]
theorem dnF_stay {va lv : Nat → Nat} {k : Nat} (h : va k = lv k) : dnF va lv k = dnF va lv (k + 1) := by
  funext j
  unfold dnF
  by_cases h1 : j = k
  · subst h1
    rw [if_neg (by omega), if_pos (by omega), h]
  · by_cases h2 : j < k
    · rw [if_pos h2, if_pos (by omega)]
    · rw [if_neg h2, if_neg (by omega)]
set_option maxRecDepth 100000 in
set_option maxHeartbeats 12800000 in
theorem Build_ok (X Y : Int) (Wn Hn : Nat) (adF : Addr) (N c : Nat) (lf : List Nat) (B : Option Addr) (n d : Nat) (l : List (Int × Int)) (adB : Addr) (cb : Nat) (lb : List Nat) (wide soft : Nat) (w : World) (hr : Reg X Y Wn Hn) (hN : N = Wn * Hn) (hlf : lf.length = N) (hh : ∀ j, j < N → Bd 20 (lf.getD j 0)) (hV : Rd w (some adF) (flt lf)) (hn : l.length = n) (hP : Rd w B (ptv l)) (h0 : fieldE X Y Wn Hn lf = 0) (hW : wayE (outP X Y Wn Hn) l = 0) (hlb : lb.length = n) (hB : Rd w (some adB) (flt lb)) (hnb : numE lb = 0) (hw : wide ≤ 20) (hs1 : 1 ≤ soft) (hs2 : soft ≤ 20) :
    Calls Try.prog 54 #[.agg #[.int .i64 X, .int .i64 Y, .int .i64 (Wn : Int), .int .i64 (Hn : Int), .slice (some adF) N c], .slice B n d, .slice (some adB) n cb, .int .i64 (wide : Int), .int .i64 (soft : Int)] w fun e w' => BldPost X Y Wn Hn N ((List.range N).map fun k => valW wide soft (fun j => lb.getD j 0) (lf.getD k 0) (rfS (dsW X Y Wn l k) n)) w e w' := by
  have hok := wayOk hW
  have hn6 : n ≤ 65536 := by have := hok.le; omega
  have hn1 : 1 ≤ n := by have := hok.pos; omega
  have hN6 : N ≤ 65536 := by rw [hN]; exact hr.n
  have hN1 : 1 ≤ N := by rw [hN]; exact Nat.mul_pos hr.w1 hr.h1
  have hin : ∀ j, j < n → InR X Y Wn Hn (l.getD j (0, 0)).1 (l.getD j (0, 0)).2 := fun j hj => outP_in (hok.ok j (by omega))
  have hbb : ∀ j, j < n → Bd 20 (lb.getD j 0) := fun j hj => by
    have hj2 : j < lb.length := by omega
    rw [show lb.getD j 0 = lb[j] by simp [List.getD_eq_getElem?_getD, hj2]]
    exact hgt_bd ((numE_zero hnb).2 _ (List.getElem_mem hj2))
  have HO := fun (w' : World) (h : Ext w w') => hidA (onField_any X Y Wn Hn (some adF) N c lf B n d l w' hlf (hV.ext h) (by omega) hn (hP.ext h))
  rw [h0, hW] at HO
  simp only [ne_eq, not_true_eq_false, if_false] at HO
  have HH := fun (w' : World) (h : Ext w w') => hidA (heights_any (some adB) n cb lb w' hlb (hB.ext h) (by omega))
  rw [hnb] at HH
  have HNr := fun (w' : World) (h : Ext w w') => hidA (nearest_any X Y Wn Hn N B n d l (wide + soft) w' hr hN hn (hP.ext h) hin hn6 (by omega))
  rw [show ((wide + soft : Nat) : Int) = (wide : Int) + (soft : Int) from Int.natCast_add _ _] at HNr
  have HY := fun (w' : World) (h : Ext w w') => hidA (Copy_any X Y Wn Hn N c adF lf w' hlf (hV.ext h) hN1 (by omega))
  have Hva : Hid (∀ k, k < N → bldW wide soft (fun j => lb.getD j 0) (lf.getD k 0) (nrS (inbW X Y Wn (wide + soft) l k) (dsW X Y Wn l k) n) = valW wide soft (fun j => lb.getD j 0) (lf.getD k 0) (rfS (dsW X Y Wn l k) n)) := fun k hk =>
    bld_eq' hw hs1 hs2 (fun j hj => (dsW_bd hr hN hk (hin j hj)).1) (fun j hj => (dsW_bd hr hN hk (hin j hj)).2.1) (fun j _ hi => far_out hi) hn1
  have Hsp : Hid (∀ k, k < N → (nrS (inbW X Y Wn (wide + soft) l k) (dsW X Y Wn l k) n).1 < 0 ∨ ∃ b m : Nat, b < n ∧ m ≤ 2097152 ∧ nrS (inbW X Y Wn (wide + soft) l k) (dsW X Y Wn l k) n = ((b : Int), (m : Int))) := fun k hk => by
    rcases nrS_spec (inbW X Y Wn (wide + soft) l k) (dsW X Y Wn l k) n with ⟨e, _⟩ | ⟨b, b1, e, _⟩
    · rw [e]
      exact .inl (by decide)
    · have h9 := dsW_bd hr hN hk (hin b b1)
      refine .inr ⟨b, (dsW X Y Wn l k b).toNat, b1, by omega, ?_⟩
      rw [e]
      congr 1
      omega
  have HVc : Hid (∀ w' k, k < N → Ext w w' → w'.cell? (adF.add k) = some (.float .f32 (lf.getD k 0))) := fun w' k hk h => by
    obtain ⟨ad', e, _, hcv⟩ := (hV.ext h).at (k := k) (by simp [flt]; omega)
    injection e with e
    subst e
    rw [hcv k _ (flt_get (by omega : k < lf.length))]
    simp [List.getD_eq_getElem?_getD, show k < lf.length by omega]
  have HBc : Hid (∀ w' j, j < n → Ext w w' → w'.cell? (adB.add j) = some (.float .f32 (lb.getD j 0))) := fun w' j hj h => by
    obtain ⟨ad', e, _, hcv⟩ := (hB.ext h).at (k := j) (by simp [flt]; omega)
    injection e with e
    subst e
    rw [hcv j _ (flt_get (by omega : j < lb.length))]
    simp [List.getD_eq_getElem?_getD, show j < lb.length by omega]
  have Hhh := hidA hh
  have Hbb := hidA hbb
  have a1 : ¬ (wide : Int) < 0 := by omega
  have a2 : ¬ 20 < (wide : Int) := by omega
  have a3 : ¬ (soft : Int) < 1 := by omega
  have a4 : ¬ 20 < (soft : Int) := by omega
  clear hr hN hlf hh hV hn hP h0 hW hlb hB hnb hok hin hbb
  go_enter Try.func54, Try.ntmps54
  go_upto_region 1 with fail
  have kF0 : Bk ((w.alloc (.cells #[.int .i64 X, .int .i64 Y, .int .i64 (Wn : Int), .int .i64 (Hn : Int), .slice (some adF) N c] 26)).alloc (.cells #[.int .i64 0, .int .i64 0, .int .i64 0, .int .i64 0, .slice none 0 0] 26)) w.heap.size 26 #[.int .i64 X, .int .i64 Y, .int .i64 (Wn : Int), .int .i64 (Hn : Int), .slice (some adF) N c] := (Bk.new' rfl).alloc _
  have kZ0 : Bk ((w.alloc (.cells #[.int .i64 X, .int .i64 Y, .int .i64 (Wn : Int), .int .i64 (Hn : Int), .slice (some adF) N c] 26)).alloc (.cells #[.int .i64 0, .int .i64 0, .int .i64 0, .int .i64 0, .slice none 0 0] 26)) (w.heap.size + 1) 26 #[.int .i64 0, .int .i64 0, .int .i64 0, .int .i64 0, .slice none 0 0] := Bk.new' (by simp)
  have hx0 : Ext w ((w.alloc (.cells #[.int .i64 X, .int .i64 Y, .int .i64 (Wn : Int), .int .i64 (Hn : Int), .slice (some adF) N c] 26)).alloc (.cells #[.int .i64 0, .int .i64 0, .int .i64 0, .int .i64 0, .slice none 0 0] 26)) := ((Ext.refl w).alloc _).alloc _
  generalize (w.alloc (.cells #[.int .i64 X, .int .i64 Y, .int .i64 (Wn : Int), .int .i64 (Hn : Int), .slice (some adF) N c] 26)).alloc (.cells #[.int .i64 0, .int .i64 0, .int .i64 0, .int .i64 0, .slice none 0 0] 26) = w0 at *
  have f0 := kF0.cell 0
  have f1 := kF0.cell 1
  have f2 := kF0.cell 2
  have f3 := kF0.cell 3
  have f4 := kF0.cell 4
  go_upto_region 11 with (first | (go_at_call 84; refine ((HO _ hx0).out).mono ?_; rintro e w1 ⟨rfl, hx1⟩) | (go_at_call 59; refine ((HH _ (hx0.trans hx1)).out).mono ?_; rintro e w2 ⟨rfl, hw2⟩; subst hw2))
  have kF1 := kF0.ext hx1
  have kZ1 := kZ0.ext hx1
  have hxa := hx0.trans hx1
  clear f0 f1 f2 f3 f4 kF0 kZ0 hx0 hx1 HO HH
  have f0 := kF1.cell 0
  have f1 := kF1.cell 1
  have f2 := kF1.cell 2
  have f3 := kF1.cell 3
  go_upto_region 12 with (go_at_call 94; refine ((HNr _ hxa).out).mono ?_; rintro e w3 ⟨gn, gq, rfl, hNM⟩)
  have kF3 := kF1.ext hNM.x
  have kZ3 := kZ1.ext hNM.x
  have hxb := hxa.trans hNM.x
  clear f0 f1 f2 f3 kF1 kZ1 HNr hxa
  have f0 := kF3.cell 0
  have f1 := kF3.cell 1
  have f2 := kF3.cell 2
  have f3 := kF3.cell 3
  have f4 := kF3.cell 4
  go_upto_region 14 with (go_at_call 95; refine ((HY _ hxb).out).mono ?_; rintro e w4 ⟨g, cap, cur, rfl, hge, hC, hx4⟩)
  have hM0 : BM w (w4.alloc (.cells #[.int .i64 X, .int .i64 Y, .int .i64 (Wn : Int), .int .i64 (Hn : Int), .slice (some ⟨g, 0, none⟩) N cap] 26)) w.heap.size (w.heap.size + 1) w4.heap.size g cap N gn gq #[.int .i64 X, .int .i64 Y, .int .i64 (Wn : Int), .int .i64 (Hn : Int), .slice (some adF) N c] #[.int .i64 X, .int .i64 Y, .int .i64 (Wn : Int), .int .i64 (Hn : Int), .slice (some ⟨g, 0, none⟩) N cap] (dnF (fun k => valW wide soft (fun j => lb.getD j 0) (lf.getD k 0) (rfS (dsW X Y Wn l k) n)) (fun k => lf.getD k 0) 0) (fun k => (nrS (inbW X Y Wn (wide + soft) l k) (dsW X Y Wn l k) n).1) (fun k => (nrS (inbW X Y Wn (wide + soft) l k) (dsW X Y Wn l k) n).2) := by
    have e : dnF (fun k => valW wide soft (fun j => lb.getD j 0) (lf.getD k 0) (rfS (dsW X Y Wn l k) n)) (fun k => lf.getD k 0) 0 = fun k => lf.getD k 0 := by
      funext j
      unfold dnF
      rw [if_neg (by omega)]
    rw [e]
    have hsz := hxb.size
    exact ⟨(kF3.ext hx4).alloc _, (kZ3.ext hx4).alloc _, Bk.new' rfl, (hNM.a.ext hx4).alloc _, (hNM.b.ext hx4).alloc _, ⟨⟨cur, hC.ext ((Ext.refl w4).alloc _)⟩, (hxb.trans hx4).alloc _⟩, by omega⟩
  have hcapN := hC.n
  have hzl := hM0.kZ.lt
  clear f0 f1 f2 f3 f4 kF3 kZ3 hNM hC hx4 hge HY hxb
  generalize w4.alloc (.cells #[.int .i64 X, .int .i64 Y, .int .i64 (Wn : Int), .int .i64 (Hn : Int), .slice (some ⟨g, 0, none⟩) N cap] 26) = w5 at *
  generalize w4.heap.size = ho at *
  obtain ⟨va, hva⟩ : ∃ va : Nat → Nat, va = fun k => valW wide soft (fun j => lb.getD j 0) (lf.getD k 0) (rfS (dsW X Y Wn l k) n) := ⟨_, rfl⟩
  have Hvl := hidA (show (List.range N).map va = (List.range N).map (fun k => valW wide soft (fun j => lb.getD j 0) (lf.getD k 0) (rfS (dsW X Y Wn l k) n)) from by rw [hva])
  have Hvk := hidA (fun k (hk : k < N) => (show va k = bldW wide soft (fun j => lb.getD j 0) (lf.getD k 0) (nrS (inbW X Y Wn (wide + soft) l k) (dsW X Y Wn l k) n) from by rw [hva]; exact (Hva.out k hk).symm))
  rw [← hva] at hM0
  clear hva Hva
  obtain ⟨NR, hNR⟩ : ∃ NR : Nat → Int × Int, NR = fun k => nrS (inbW X Y Wn (wide + soft) l k) (dsW X Y Wn l k) n := ⟨_, rfl⟩
  have Hvk2 : Hid (∀ k, k < N → va k = bldW wide soft (fun j => lb.getD j 0) (lf.getD k 0) (NR k)) := fun k hk => by rw [hNR]; exact Hvk.out k hk
  have Hsp2 : Hid (∀ k, k < N → (NR k).1 < 0 ∨ ∃ b m : Nat, b < n ∧ m ≤ 2097152 ∧ NR k = ((b : Int), (m : Int))) := fun k hk => by rw [hNR]; exact Hsp.out k hk
  have hM1 : BM w w5 w.heap.size (w.heap.size + 1) ho g cap N gn gq #[.int .i64 X, .int .i64 Y, .int .i64 (Wn : Int), .int .i64 (Hn : Int), .slice (some adF) N c] #[.int .i64 X, .int .i64 Y, .int .i64 (Wn : Int), .int .i64 (Hn : Int), .slice (some ⟨g, 0, none⟩) N cap] (dnF va (fun k => lf.getD k 0) 0) (fun k => (NR k).1) (fun k => (NR k).2) := by rw [hNR]; exact hM0
  clear hM0 hNR Hvk Hsp
  go_loopw [72] (fun s72 wr => ∃ k : Nat, k ≤ N ∧ s72 = .int .i64 k ∧ BM w wr w.heap.size (w.heap.size + 1) ho g cap N gn gq #[.int .i64 X, .int .i64 Y, .int .i64 (Wn : Int), .int .i64 (Hn : Int), .slice (some adF) N c] #[.int .i64 X, .int .i64 Y, .int .i64 (Wn : Int), .int .i64 (Hn : Int), .slice (some ⟨g, 0, none⟩) N cap] (dnF va (fun k => lf.getD k 0) k) (fun k => (NR k).1) (fun k => (NR k).2)) (fun s72 _ => N - (intOf s72).toNat)
  case atStart => exact ⟨0, Nat.zero_le _, rfl, hM1⟩
  case round =>
    clear hM1
    obtain ⟨k, hk, rfl, hM⟩ := hrel
    by_cases hkN : k < N
    · have Hk := hidA hkN
      have c1 : wr.cell? ⟨gn, k, none⟩ = some (.int .i64 (NR k).1) := by rw [hM.kN.cell]; exact intB_get _ hkN
      have i0 : (0 : Int) ≤ k := by omega
      have i1 : (k : Int) < N := by omega
      have i2 : (N : Int) ≤ 65536 := by omega
      have hv := Hvk2.out k hkN
      have hfk := Hhh.out k hkN
      have hdp := dnF_put va (fun k => lf.getD k 0) k
      rcases Hsp2.out k hkN with hneg | ⟨b, m, hb1, hm1, e⟩
      · have dN : decide ((NR k).1 < 0) = true := decide_eq_true hneg
        have hst : dnF va (fun k => lf.getD k 0) k = dnF va (fun k => lf.getD k 0) (k + 1) := dnF_stay (by rw [hv]; unfold bldW; rw [if_pos hneg])
        rw [hst] at hM
        have HM := hidA hM
        clear hM hneg hst hdp hv hk hkN
        generalize (NR k).1 = z at *
        go_wp2
        go_roundw
        case rel => exact ⟨k + 1, Hk.out, (by first | rfl | go_num), HM.out⟩
        case measure => exact nxt_n Hk.out
      · have c2 : ∀ w', Ext wr w' → w'.cell? ⟨gq, k, none⟩ = some (.int .i64 (m : Int)) := fun w' h => by rw [(hM.kQ.ext h).cell, intB_get _ hkN, e]
        rw [e] at c1 hv
        dsimp only at c1
        have hv2 : va k = valW wide soft (fun j => lb.getD j 0) (lf.getD k 0) ((b : Int), (m : Int)) := by
          rw [hv]
          unfold bldW
          rw [if_neg (by dsimp only; omega)]
        have cB := HBc.out wr b hb1 hM.c.x
        have cF := HVc.out wr k hkN hM.c.x
        have f4 := hM.kF.cell 4
        have b0 : (0 : Int) ≤ b := by omega
        have b1 : (b : Int) < n := by omega
        have bn : ¬ (b : Int) < 0 := by omega
        have m0 : (0 : Int) ≤ m := by omega
        have m1 : (m : Int) ≤ 2097152 := by omega
        have hbb := Hbb.out b hb1
        have HM := hidA hM
        obtain ⟨W2, hW2, hW2a, hW2b⟩ : ∃ W2 : Int, (wide : Int) * (wide : Int) = W2 ∧ 0 ≤ W2 ∧ W2 ≤ 1048576 := ⟨(wide : Int) * (wide : Int), rfl, (sq_bd (by omega) (by omega)).1, (sq_bd (by omega) (by omega)).2⟩
        clear hM hv e hk hkN
        generalize hvb : lb.getD b 0 = vb at *
        generalize hvf : lf.getD k 0 = vf at *
        have Hvb := hidA hvb
        have Hvf := hidA hvf
        clear hvb hvf
        go_upto_region 17 with fail
        go_quiet (fail)
        have hxn : Ext wr (wr.drewN nq) := (by repeat (first | exact Ext.refl _ | assumption | refine Ext.setCell ?_ (by first | (simp; done) | (simp; omega)) _ | refine Ext.drewN ?_ _ | refine Ext.alloc ?_ _ | refine Ext.drew ?_ | refine Ext.trans ?_ (by assumption)))
        have HM5 := hidA (HM.out.step hxn)
        have c25 := c2 _ hxn
        clear c1 c2 cB cF f4 HM hxn
        generalize wr.drewN nq = w6 at *
        have o4 := HM5.out.kO.cell 4
        have cg := HM5.out.c.cell Hk.out
        have cz := HM5.out.c.frozen k
        generalize hdd : dnF va (fun k => lf.getD k 0) k k = dd at cg
        clear hdd
        by_cases hle : (m : Int) ≤ W2
        · have dle : decide ((m : Int) ≤ W2) = true := decide_eq_true hle
          have hvk : va k = vb := by
            rw [hv2]
            unfold valW
            rw [if_pos (by rw [hW2]; exact hle)]
            exact Hvb.out
          rw [hvk] at hdp
          have HM7 := HM5.out.put k vb
          rw [hdp] at HM7
          have HM7 := hidA HM7
          clear hv2 hle hvk hdp HM5
          go_wp2
          go_roundw
          case rel => exact ⟨k + 1, Hk.out, (by first | rfl | go_num), HM7.out⟩
          case measure => exact nxt_n Hk.out
        · have dle : decide ((m : Int) ≤ W2) = false := decide_eq_false hle
          have hwm : wide * wide < m := by
            have h9 : ((wide * wide : Nat) : Int) < (m : Int) := by rw [Int.natCast_mul, hW2]; omega
            exact Int.ofNat_lt.1 h9
          have hm60 : m < 2 ^ 60 := Nat.lt_of_le_of_lt hm1 (by decide)
          obtain ⟨s1, s2, s3, s4, _⟩ := sh_ok hw hs1 hs2 hm60 hwm
          have HRo := fun (w : World) => hidA (noiseRoot_any (int_bd' hm60) (int_pos m) (by omega) w)
          have r1 := fun (w : World) => run_float_arith (P := Try.prog) w .sub 27 .f32 _ _ _ s1
          have r2 := fun (w : World) => run_float_arith (P := Try.prog) w .quo 27 .f32 _ _ _ s2
          have hv3 : va k = if lt (shF wide soft m) 1065353216 = true then mixB vb vf (easeB (shF wide soft m)) else vf := by
            rw [hv2]
            unfold valW
            rw [if_neg (by rw [hW2]; exact hle)]
            dsimp only
            rw [Int.toNat_natCast, Hvb.out]
          have hFs := bd_Fin s3 (by omega)
          clear s1 s2 hle hwm hm60 hm1 hv2
          generalize shF wide soft m = sF at *
          generalize fsub (rootB (floatOfInt .f32 (m : Int))) (floatOfInt .f32 (wide : Int)) = sd at *
          generalize rootB (floatOfInt .f32 (m : Int)) = ro at *
          cases hlt : lt sF 1065353216
          · have hlt' : (FloatKind.f32.format.order sF 1065353216 == some .lt) = false := hlt
            rw [hlt] at hv3
            simp only [Bool.false_eq_true, if_false] at hv3
            have hst : dnF va (fun k => lf.getD k 0) k = dnF va (fun k => lf.getD k 0) (k + 1) := dnF_stay (by rw [hv3]; exact Hvf.out.symm)
            have HM7 := HM5.out
            rw [hst] at HM7
            have HM7 := hidA HM7
            clear hlt s3 s4 hFs hv3 hst hdp HM5
            go_wp2_with (go_at_call 96; refine ((HRo _).out).mono ?_; rintro e w7 ⟨rfl, hw7⟩; subst hw7)
            go_roundw
            case rel => exact ⟨k + 1, Hk.out, (by first | rfl | go_num), HM7.out⟩
            case measure => exact nxt_n Hk.out
          · have hlt' : (FloatKind.f32.format.order sF 1065353216 == some .lt) = true := hlt
            rw [hlt, if_pos rfl] at hv3
            have hs0b := share_bd hFs s4 hlt
            have hl0 : lt sF 0 = false := by
              rw [lt_val hFs (bd_Fin zero_bd (by omega)), val_zero]
              exact decide_eq_false (by omega)
            have hg1 : gt sF 1065353216 = false := by
              have h8 := hlt
              rw [lt_val hFs (bd_Fin one_bd (by omega))] at h8
              have h7 := of_decide_eq_true h8
              rw [gt_val hFs (bd_Fin one_bd (by omega))]
              exact decide_eq_false (by omega)
            have HEa := fun (w : World) => hidA (Ease_any hs0b hl0 hg1 w)
            have HMx := fun (w : World) => hidA (mix6_any w hbb hfk (ease_ok hs0b).2.2.2.2)
            rw [hv3] at hdp
            clear hlt s3 s4 hFs hs0b hl0 hg1 hv3
            generalize mixB vb vf (easeB sF) = rz at *
            generalize easeB sF = es at *
            go_upto_region 23 with (first | (go_at_call 96; refine ((HRo _).out).mono ?_; rintro e w7 ⟨rfl, hw7⟩; subst hw7) | (go_at_call 97; refine ((HEa _).out).mono ?_; rintro e w8 ⟨rfl, hx8⟩))
            have HM8 := hidA (HM5.out.step hx8)
            clear o4 cg cz
            have HM9 := hidA (fun (w' : World) (h : Ext w8 w') => show BM w (w'.setCell ⟨g, k, none⟩ (.float .f32 rz)) w.heap.size (w.heap.size + 1) ho g cap N gn gq #[.int .i64 X, .int .i64 Y, .int .i64 (Wn : Int), .int .i64 (Hn : Int), .slice (some adF) N c] #[.int .i64 X, .int .i64 Y, .int .i64 (Wn : Int), .int .i64 (Hn : Int), .slice (some ⟨g, 0, none⟩) N cap] (dnF va (fun k => lf.getD k 0) (k + 1)) (fun k => (NR k).1) (fun k => (NR k).2) from by
              have h9 := (HM8.out.step h).put k rz
              rw [hdp] at h9
              exact h9)
            clear hdp HM5 c25
            generalize dnF va (fun k => lf.getD k 0) k = F0 at HM8
            have hQ : QB w w.heap.size (w.heap.size + 1) ho g cap N gn gq #[.int .i64 X, .int .i64 Y, .int .i64 (Wn : Int), .int .i64 (Hn : Int), .slice (some adF) N c] #[.int .i64 X, .int .i64 Y, .int .i64 (Wn : Int), .int .i64 (Hn : Int), .slice (some ⟨g, 0, none⟩) N cap] F0 k (fun k => (NR k).1) (fun k => (NR k).2) w8 := QB.of HM8.out
            have o4 : ∀ w', QB w w.heap.size (w.heap.size + 1) ho g cap N gn gq #[.int .i64 X, .int .i64 Y, .int .i64 (Wn : Int), .int .i64 (Hn : Int), .slice (some adF) N c] #[.int .i64 X, .int .i64 Y, .int .i64 (Wn : Int), .int .i64 (Hn : Int), .slice (some ⟨g, 0, none⟩) N cap] F0 k (fun k => (NR k).1) (fun k => (NR k).2) w' → w'.cell? ⟨ho, 4, none⟩ = some (.slice (some ⟨g, 0, none⟩) N cap) := fun w' ⟨x, h⟩ => h.kO.cell 4
            have cg : ∀ w', QB w w.heap.size (w.heap.size + 1) ho g cap N gn gq #[.int .i64 X, .int .i64 Y, .int .i64 (Wn : Int), .int .i64 (Hn : Int), .slice (some adF) N c] #[.int .i64 X, .int .i64 Y, .int .i64 (Wn : Int), .int .i64 (Hn : Int), .slice (some ⟨g, 0, none⟩) N cap] F0 k (fun k => (NR k).1) (fun k => (NR k).2) w' → w'.cell? ⟨g, k, none⟩ = some (.float .f32 (cellXB w' ⟨g, k, none⟩)) := fun w' ⟨x, h⟩ => cellXB_of (h.c.cell Hk.out)
            have cz : ∀ w', QB w w.heap.size (w.heap.size + 1) ho g cap N gn gq #[.int .i64 X, .int .i64 Y, .int .i64 (Wn : Int), .int .i64 (Hn : Int), .slice (some adF) N c] #[.int .i64 X, .int .i64 Y, .int .i64 (Wn : Int), .int .i64 (Hn : Int), .slice (some ⟨g, 0, none⟩) N cap] F0 k (fun k => (NR k).1) (fun k => (NR k).2) w' → w'.frozen? ⟨g, k, none⟩ = false := fun w' ⟨x, h⟩ => h.c.frozen k
            refine wp_region_noPanic ?_
            refine wp_region_held_drew (S := fun w' => QB w w.heap.size (w.heap.size + 1) ho g cap N gn gq #[.int .i64 X, .int .i64 Y, .int .i64 (Wn : Int), .int .i64 (Hn : Int), .slice (some adF) N c] #[.int .i64 X, .int .i64 Y, .int .i64 (Wn : Int), .int .i64 (Hn : Int), .slice (some ⟨g, 0, none⟩) N cap] F0 k (fun k => (NR k).1) (fun k => (NR k).2) w') (by kernel_rfl) ?_ (fun hHeld => ?_)
            · repeat (first | assumption | refine QB.set ?_ _ | refine QB.ext ?_ (Ext.drew (Ext.refl _)))
            refine wpAnyH_take (i := 0) (oi := ?o1x0) (v := ?v1x0) ?hi1x0 (by kernel_rfl) ?hf1x0 ?hr1x0 (fun _ _ _ h => h) ?hy1x0 (by assumption) ?rest1x0
            case hi1x0 => (simp only [List.getElem?_toArray, List.getElem?_cons_zero]; exact rfl)
            case hf1x0 => kernel_rfl
            case hr1x0 => kernel_rfl
            case hy1x0 => (refine Or.inl ⟨by rfl, ?_⟩; intro w hSw; (try dsimp only at hSw); go_simp; try with_reducible rfl)
            simp only [put_mk, List.set_cons_succ, List.set_cons_zero]
            refine wpAnyH_take (i := 1) (oi := ?o1x1) (v := ?v1x1) ?hi1x1 (by kernel_rfl) ?hf1x1 ?hr1x1 (fun _ _ _ h => h) ?hy1x1 (by assumption) ?rest1x1
            case hi1x1 => (simp only [List.getElem?_toArray, List.getElem?_cons_succ, List.getElem?_cons_zero]; exact rfl)
            case hf1x1 => kernel_rfl
            case hr1x1 => kernel_rfl
            case hy1x1 => (refine Or.inl ⟨by rfl, ?_⟩; intro w hSw; (try dsimp only at hSw); go_simp; try with_reducible rfl)
            simp only [put_mk, List.set_cons_succ, List.set_cons_zero]
            refine wpAnyH_take (i := 2) (oi := ?o1x2) (v := ?v1x2) ?hi1x2 (by kernel_rfl) ?hf1x2 ?hr1x2 (fun _ _ _ h => h) ?hy1x2 (by assumption) ?rest1x2
            case hi1x2 => (simp only [List.getElem?_toArray, List.getElem?_cons_succ, List.getElem?_cons_zero]; exact rfl)
            case hf1x2 => kernel_rfl
            case hr1x2 => kernel_rfl
            case hy1x2 => (refine Or.inl ⟨by rfl, ?_⟩; intro w hSw; (try dsimp only at hSw); go_simp; try with_reducible rfl)
            simp only [put_mk, List.set_cons_succ, List.set_cons_zero]
            refine wpAnyH_take (i := 3) (oi := ?o1x3) (v := ?v1x3) ?hi1x3 (by kernel_rfl) ?hf1x3 ?hr1x3 (fun _ _ _ h => h) ?hy1x3 (by assumption) ?rest1x3
            case hi1x3 => (simp only [List.getElem?_toArray, List.getElem?_cons_succ, List.getElem?_cons_zero]; exact rfl)
            case hf1x3 => kernel_rfl
            case hr1x3 => kernel_rfl
            case hy1x3 => (refine Or.inl ⟨by rfl, ?_⟩; intro w hSw; (try dsimp only at hSw); go_simp; try with_reducible rfl)
            simp only [put_mk, List.set_cons_succ, List.set_cons_zero]
            refine wpAnyH_take (i := 4) (oi := ?o1x4) (v := ?v1x4) ?hi1x4 (by kernel_rfl) ?hf1x4 ?hr1x4 (fun _ _ _ h => h) ?hy1x4 (by assumption) ?rest1x4
            case hi1x4 => (simp only [List.getElem?_toArray, List.getElem?_cons_succ, List.getElem?_cons_zero]; exact rfl)
            case hf1x4 => kernel_rfl
            case hr1x4 => kernel_rfl
            case hy1x4 => (refine Or.inl ⟨by rfl, ?_⟩; intro w hSw; (try dsimp only at hSw); go_simp; try with_reducible rfl)
            simp only [put_mk, List.set_cons_succ, List.set_cons_zero]
            refine wpAnyH_take (i := 5) (oi := ?o1x5) (v := ?v1x5) ?hi1x5 (by kernel_rfl) ?hf1x5 ?hr1x5 (fun _ _ _ h => h) ?hy1x5 (by assumption) ?rest1x5
            case hi1x5 => (simp only [List.getElem?_toArray, List.getElem?_cons_succ, List.getElem?_cons_zero]; exact rfl)
            case hf1x5 => kernel_rfl
            case hr1x5 => kernel_rfl
            case hy1x5 => (refine Or.inl ⟨by rfl, ?_⟩; intro w hSw; (try dsimp only at hSw); go_simp; try with_reducible rfl)
            simp only [put_mk, List.set_cons_succ, List.set_cons_zero]
            refine wpAnyH_ready (rs := [6]) (by kernel_rfl) (by simp) ?_
            refine AllReadyH.cons (o := ?o1x6) ?hi1x6 (fun K hK => ?_) AllReadyH.nil
            case hi1x6 => (simp only [List.getElem?_toArray, List.getElem?_cons_succ, List.getElem?_cons_zero]; exact rfl)
            go_simp
            go_at_call 81
            refine ((HMx _).out).mono ?_
            rintro e wl ⟨rfl, hwl⟩
            subst wl
            refine hK.out _ _ ?_ (fun hHeld => ?_)
            · repeat (first | assumption | refine QB.set ?_ _ | refine QB.ext ?_ (Ext.drew (Ext.refl _)))
            clear hK K
            refine wpAnyH_take (i := 7) (oi := ?o1x7) (v := ?v1x7) ?hi1x7 (by kernel_rfl) ?hf1x7 ?hr1x7 (fun _ _ _ h => h) ?hy1x7 (by assumption) ?rest1x7
            case hi1x7 => (simp only [List.getElem?_toArray, List.getElem?_cons_succ, List.getElem?_cons_zero]; exact rfl)
            case hf1x7 => kernel_rfl
            case hr1x7 => kernel_rfl
            case hy1x7 => (refine Or.inl ⟨by rfl, ?_⟩; intro w hSw; (try dsimp only at hSw); go_simp; try with_reducible rfl)
            simp only [put_mk, List.set_cons_succ, List.set_cons_zero]
            refine wpAnyH_ready (rs := [8]) (by kernel_rfl) (by simp) ?_
            refine AllReadyH.cons (o := ?o1x8) ?hi1x8 (fun K hK => ?_) AllReadyH.nil
            case hi1x8 => (simp only [List.getElem?_toArray, List.getElem?_cons_succ, List.getElem?_cons_zero]; exact rfl)
            go_simp
            refine hK.out _ _ ?_ (fun hHeld => ?_)
            · repeat (first | assumption | refine QB.set ?_ _ | refine QB.ext ?_ (Ext.drew (Ext.refl _)))
            clear hK K
            refine wpAnyH_done (by kernel_rfl) ?_ _
            refine NoPanic.normal ?_
            go_wp2_with fail
            go_roundw
            case rel => exact ⟨k + 1, Hk.out, (by first | rfl | go_num), HM9.out _ (Ext.drew (Ext.refl _))⟩
            case measure => exact nxt_n Hk.out
    · obtain rfl : N = k := by omega
      have hRv := hM.c.rd
      have e9 : (List.range N).map (dnF va (fun k => lf.getD k 0) N) = (List.range N).map va := List.map_congr_left (fun j hj => by
        unfold dnF
        rw [if_pos (List.mem_range.1 hj)])
      rw [e9, Hvl.out] at hRv
      have o0 := hM.kO.cell 0
      have o1 := hM.kO.cell 1
      have o2 := hM.kO.cell 2
      have o3 := hM.kO.cell 3
      have o4 := hM.kO.cell 4
      have hx := hM.c.x
      have kZ := hM.kZ
      have hgz : g ≠ w.heap.size + 1 := by
        obtain ⟨cur, kc⟩ := hM.c.bkB
        exact Bk.ne kc kZ (by decide)
      obtain ⟨cur9, hC9⟩ := hM.c.c
      have hlv : ((List.range N).map (fun k => valW wide soft (fun j => lb.getD j 0) (lf.getD k 0) (rfS (dsW X Y Wn l k) n))).length = N := by simp
      have hrd9 : Rd wr (some ⟨g, 0, none⟩) (flt ((List.range N).map (fun k => valW wide soft (fun j => lb.getD j 0) (lf.getD k 0) (rfS (dsW X Y Wn l k) n)))) := hRv
      have HRS := fun (w : World) (h : Rd w (some ⟨g, 0, none⟩) (flt ((List.range N).map (fun k => valW wide soft (fun j => lb.getD j 0) (lf.getD k 0) (rfS (dsW X Y Wn l k) n))))) => hidA (result_one X Y Wn Hn (some ⟨g, 0, none⟩) N cap ((List.range N).map (fun k => valW wide soft (fun j => lb.getD j 0) (lf.getD k 0) (rfS (dsW X Y Wn l k) n))) w hlv h (by omega))
      have hfin : ∀ w', (∀ j, j < N → w'.cell? ⟨g, j, none⟩ = wr.cell? ⟨g, j, none⟩) → g < w'.heap.size → Rd w' (some ⟨g, 0, none⟩) (flt ((List.range N).map (fun k => valW wide soft (fun j => lb.getD j 0) (lf.getD k 0) (rfS (dsW X Y Wn l k) n)))) := fun w' h1 h2 _ => by
        refine ⟨_, rfl, h2, fun j u hu => ?_⟩
        obtain ⟨ad', e, _, hc⟩ := hRv (by intro e; rw [e] at hu; cases hu)
        injection e with e
        subst e
        have hj : j < N := by
          have := (List.getElem?_eq_some_iff.1 hu).1
          simpa [flt] using this
        have h3 := hc j u hu
        rw [lit_add] at h3 ⊢
        rw [h1 j hj]
        exact h3
      have Hfin := hidA hfin
      have HC9 := hidA hC9
      generalize hvv : (List.range N).map (fun k => valW wide soft (fun j => lb.getD j 0) (lf.getD k 0) (rfS (dsW X Y Wn l k) n)) = vv at HRS hrd9 Hfin
      have Hvv := hidA hvv
      clear hM hRv e9 hfin hlv hvv hC9 hk hkN Hvl Hvk2 Hsp2 HVc HBc Hhh Hbb
      go_wp2_with (go_at_call 98; refine ((HRS _ (hrd9.ext (by repeat (first | exact Ext.refl _ | assumption | refine Ext.setCell ?_ (by first | (simp; done) | (simp; omega)) _ | refine Ext.drewN ?_ _ | refine Ext.alloc ?_ _ | refine Ext.drew ?_ | refine Ext.trans ?_ (by assumption))))).out).mono ?_; rintro e w7 ⟨a, b, c', d', vA, vn, vc, ec, rfl, hrel, hx7⟩; have kZ7 := kZ.ext (Ext.trans (by repeat (first | exact Ext.refl _ | assumption | refine Ext.setCell ?_ (by first | (simp; done) | (simp; omega)) _ | refine Ext.drewN ?_ _ | refine Ext.alloc ?_ _ | refine Ext.drew ?_ | refine Ext.trans ?_ (by assumption))) hx7); have z0 := kZ7.cell 0; have z1 := kZ7.cell 1; have z2 := kZ7.cell 2; have z3 := kZ7.cell 3; have z4 := kZ7.cell 4; have y0 := kZ7.frozen 0; have y1 := kZ7.frozen 1; have y2 := kZ7.frozen 2; have y3 := kZ7.frozen 3; have y4 := kZ7.frozen 4)
      have hxw7 := hx.trans (Ext.trans (by repeat (first | exact Ext.refl _ | assumption | refine Ext.setCell ?_ (by first | (simp; done) | (simp; omega)) _ | refine Ext.drewN ?_ _ | refine Ext.alloc ?_ _ | refine Ext.drew ?_ | refine Ext.trans ?_ (by assumption))) hx7)
      have hC5 := (((((HC9.out.ext (Ext.trans (by repeat (first | exact Ext.refl _ | assumption | refine Ext.setCell ?_ (by first | (simp; done) | (simp; omega)) _ | refine Ext.drewN ?_ _ | refine Ext.alloc ?_ _ | refine Ext.drew ?_ | refine Ext.trans ?_ (by assumption))) hx7)).far (p := ⟨w.heap.size + 1, 0, none⟩) hgz (.int .i64 a)).far (p := ⟨w.heap.size + 1, 1, none⟩) hgz (.int .i64 b)).far (p := ⟨w.heap.size + 1, 2, none⟩) hgz (.int .i64 c')).far (p := ⟨w.heap.size + 1, 3, none⟩) hgz (.int .i64 d')).far (p := ⟨w.heap.size + 1, 4, none⟩) hgz (.slice vA vn vc)
      have hx5 := ((((hxw7.setCell (p := ⟨w.heap.size + 1, 0, none⟩) (by simp) (.int .i64 a)).setCell (p := ⟨w.heap.size + 1, 1, none⟩) (by simp) (.int .i64 b)).setCell (p := ⟨w.heap.size + 1, 2, none⟩) (by simp) (.int .i64 c')).setCell (p := ⟨w.heap.size + 1, 3, none⟩) (by simp) (.int .i64 d')).setCell (p := ⟨w.heap.size + 1, 4, none⟩) (by simp) (.slice vA vn vc)
      refine bodyPost_ret (v := .tuple #[.agg #[.int .i64 a, .int .i64 b, .int .i64 c', .int .i64 d', .slice vA vn vc], .int .i64 ec]) (by simp [results, Try.results54, go_sem, z0, z1, z2, z3, z4]) rfl ?_
      rw [Hvv.out]
      refine ⟨g, cap, Hfin.out _ (fun j hj => by rw [hC5.cell hj, HC9.out.cell hj]) hC5.b.lt, hx5, ?_⟩
      rcases hrel with ⟨h1, rfl, rfl, rfl, rfl, h6, rfl⟩ | ⟨h1, rfl, rfl, rfl, rfl, h6, rfl⟩
      · exact .inl ⟨h1, by rw [h6]⟩
      · exact .inr ⟨h1, by rw [h6]⟩
end Go.Proofs.Ytpgdinpckolfpaa
