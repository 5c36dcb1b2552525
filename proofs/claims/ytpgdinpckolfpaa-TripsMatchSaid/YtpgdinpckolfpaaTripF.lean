/- Contract: road.Trips whatever its arguments; the errors of the law TripsMatch. -/
import Derived.Test.YtpgdinpckolfpaaTripE
namespace Go.Proofs.Ytpgdinpckolfpaa
open Go.RowKit
attribute [local go_sem ↓] Go.wp_at_zero Go.wp_at_succ
attribute [local go_sem] run_store_float

/-- the error of Trips -/
def tripE (many : Int) (l : List RoR) (src : Int) : Int := if roadsE many l ≠ 0 then roadsE many l else if src < 0 ∨ many ≤ src then 11 else 0
set_option maxRecDepth 100000 in
set_option maxHeartbeats 3200000 in
theorem Trips_bad (many src : Int) (A : Option Addr) (n c : Nat) (l : List RoR) (w : World) (hn : l.length = n) (hV : Rd w A (rocells l)) (hE : tripE many l src ≠ 0) :
    Calls Try.prog 44 #[.int .i64 many, .slice A n c, .int .i64 src] w fun e w' => e = .returned (.tuple #[.slice none 0 0, .slice none 0 0, .int .i64 (tripE many l src)]) ∧ Ext w w' := by
  have HC := hidA (checkRoads_any many A n c l w hn hV)
  have HE : Hid (tripE many l src = if roadsE many l ≠ 0 then roadsE many l else if src < 0 ∨ many ≤ src then 11 else 0) := rfl
  generalize tripE many l src = E at *
  generalize roadsE many l = T at *
  clear hn hV
  by_cases hT : T = 0
  · have HE2 := hidA (HE.out.trans (if_neg (by simpa using hT)))
    have hs : src < 0 ∨ many ≤ src := by
      by_cases h : src < 0 ∨ many ≤ src
      · exact h
      · exact absurd (HE2.out.trans (if_neg h)) hE
    have HE3 := hidA (HE2.out.trans (if_pos hs))
    subst hT
    clear HE HE2 hE
    have hs2 : src < 0 ∨ (¬ src < 0 ∧ many ≤ src) := by omega
    clear hs
    go_enter Try.func44, Try.ntmps44
    rcases hs2 with q1 | ⟨q1, q2⟩
    all_goals
      go_wp2_with (go_at_call 82; refine (HC.out).mono ?_; rintro e w1 ⟨rfl, hx1⟩)
      go_ret3
      exact ⟨by rw [HE3.out]; rfl, hx1⟩
  · have HE2 := hidA (HE.out.trans (if_pos (by simpa using hT)))
    have hT' : (T != 0) = true := by simpa using hT
    clear HE hE hT
    go_enter Try.func44, Try.ntmps44
    go_wp2_with (go_at_call 82; refine (HC.out).mono ?_; rintro e w1 ⟨rfl, hx1⟩)
    go_ret3
    exact ⟨by rw [HE2.out]; rfl, hx1⟩
set_option maxRecDepth 100000 in
set_option maxHeartbeats 3200000 in
theorem Trips_ok (N src : Nat) (A : Option Addr) (n c : Nat) (l : List RoR) (w : World) (hn : l.length = n) (hV : Rd w A (rocells l)) (h1 : 1 ≤ N) (h24 : N ≤ 24) (hn3 : n ≤ 1000) (hl : RoOk N l) (hs : src < N) (hT : roadsE N l = 0) :
    Calls Try.prog 44 #[.int .i64 (N : Int), .slice A n c, .int .i64 (src : Int)] w fun e w' => ∃ go gs is v, e = .returned (.tuple #[.slice (some ⟨go, 0, none⟩) N N, .slice (some ⟨gs, 0, none⟩) N N, .int .i64 0]) ∧
      w.heap.size ≤ go ∧ w.heap.size ≤ gs ∧ Bk w' go 27 (flo N v) ∧ Bk w' gs 4 (bools N is) ∧ TLe N (plR l) src is v ∧ Ext w w' := by
  have HC := hidA (checkRoads_any N A n c l w hn hV)
  rw [hT] at HC
  have HT := fun (w' : World) (h : Ext w w') => hidA (trips_any N src A n c l w' hn (hV.ext h) h1 h24 hn3 hl hs)
  have q1 : ¬ ((src : Int) < 0) := by omega
  have q2 : ¬ ((N : Int) ≤ src) := by omega
  clear hn hV hl hT
  go_enter Try.func44, Try.ntmps44
  go_wp2_with (first | (go_at_call 82; refine (HC.out).mono ?_; rintro e w1 ⟨rfl, hx1⟩) | (go_at_call 83; refine ((HT _ hx1).out).mono ?_; rintro e w2 ⟨go, gs, is, v, rfl, b1, b2, kO, kS, hTL, hx2⟩))
  go_ret3
  have := hx1.size
  exact ⟨go, gs, is, v, rfl, by omega, by omega, kO, kS, hTL, hx1.trans hx2⟩
def whenI (b : Bool) (k : Int) : Int := if b then k else 0
def withI (n lo hi : Int) : Bool := decide (lo ≤ n) && decide (n ≤ hi)
theorem withI_false {n lo hi : Int} : withI n lo hi = false ↔ n < lo ∨ hi < n := by
  unfold withI
  rw [Bool.and_eq_false_iff]
  simp
/-- what the law has found after i roads -/
def TJ (many : Int) (l : List RoR) (i : Nat) (u : Int) : Prop := (u ≠ 0 → u = roadsE many l) ∧ (u = 0 → 1 ≤ many ∧ many ≤ 24 ∧ roadsE many l = roadsI many (l.drop i))
theorem TJ.start (many : Int) (l : List RoR) : TJ many l 0 (firstE [whenI (!withI many 1 24) 3, whenI (decide ((1000 : Int) < (l.length : Int))) 4]) := by
  unfold TJ roadsE
  by_cases h : many < 1 ∨ 24 < many
  · rw [withI_false.2 h, if_pos h]
    exact ⟨fun _ => rfl, fun h => by cases h⟩
  · have e : withI many 1 24 = true := by
      cases e : withI many 1 24
      · exact absurd (withI_false.1 e) h
      · rfl
    rw [e, if_neg h]
    by_cases h2 : 1000 < l.length
    · rw [decide_eq_true (by omega), if_pos h2]
      exact ⟨fun _ => rfl, fun h => by cases h⟩
    · rw [decide_eq_false (by omega), if_neg h2]
      exact ⟨fun h => absurd rfl h, fun _ => ⟨by omega, by omega, by rw [List.drop_zero]⟩⟩
/-- the errors of a road, as the law finds them -/
def roadU (m1 : Int) (r : RoR) (u : Int) : Int := firstE [u, whenI ((!withI r.a 0 m1) || (!withI r.b 0 m1)) 11, whenI (r.a == r.b) 14, whenI (!finB r.p) 2, whenI (lt r.p 0) 3]
theorem TJ.next {many m1 : Int} {l : List RoR} {i : Nat} {u : Int} (h : TJ many l i u) (hi : i < l.length) (hm : 1 ≤ many → many ≤ 24 → m1 = many - 1) : TJ many l (i + 1) (roadU m1 l[i] u) := by
  by_cases hu : u = 0
  · obtain ⟨h1, h2, h3⟩ := h.2 hu
    rw [roadsI_at hi] at h3
    have e : roadU m1 l[i] u = roadE many l[i] := by
      subst hu
      rw [hm h1 h2]
      generalize l[i] = r
      unfold roadU roadE
      have e1 : ((!withI r.a 0 (many - 1)) || (!withI r.b 0 (many - 1))) = decide (r.a < 0 ∨ many ≤ r.a ∨ r.b < 0 ∨ many ≤ r.b) := by
        unfold withI
        rw [Bool.eq_iff_iff]
        simp
        omega
      rw [e1]
      unfold whenI
      simp only [firstE, decide_eq_true_eq, if_true, beq_iff_eq, Bool.not_eq_true']
      by_cases c1 : r.a < 0 ∨ many ≤ r.a ∨ r.b < 0 ∨ many ≤ r.b
      · rw [if_pos c1, if_pos c1, if_neg (by decide)]
      · rw [if_neg c1, if_neg c1, if_pos rfl]
        by_cases c2 : r.a = r.b
        · rw [if_pos c2, if_pos c2, if_neg (by decide)]
        · rw [if_neg c2, if_neg c2, if_pos rfl]
          by_cases c3 : finB r.p = false
          · rw [if_pos c3, if_pos c3, if_neg (by decide)]
          · rw [if_neg c3, if_neg c3, if_pos rfl]
            by_cases c4 : lt r.p 0 = true
            · rw [if_pos c4]
              rfl
            · rw [if_neg c4]
              rfl
    rw [e]
    refine ⟨fun h4 => ?_, fun h4 => ⟨h1, h2, ?_⟩⟩
    · rw [h3, if_pos h4]
    · rw [h3, if_neg (by simpa using h4)]
  · have e : roadU m1 l[i] u = u := by
      unfold roadU
      simp [firstE, hu]
    rw [e]
    exact ⟨h.1, fun h4 => absurd h4 hu⟩
theorem TJ.fin {many : Int} {l : List RoR} {n : Nat} {u : Int} (h : TJ many l n u) (hn : l.length = n) : u = roadsE many l := by
  by_cases hu : u = 0
  · obtain ⟨_, _, h3⟩ := h.2 hu
    rw [List.drop_of_length_le (by omega)] at h3
    rw [hu, h3]
    rfl
  · exact h.1 hu
theorem trip_first {many m1 src : Int} {l : List RoR} (hm : 1 ≤ many → many ≤ 24 → m1 = many - 1) : firstE [roadsE many l, whenI (!withI src 0 m1) 11] = tripE many l src := by
  unfold tripE
  by_cases h : roadsE many l = 0
  · have h9 : 1 ≤ many ∧ many ≤ 24 := by
      unfold roadsE at h
      split at h
      · cases h
      · omega
    rw [hm h9.1 h9.2]
    rw [h, if_neg (show ¬ (0 : Int) ≠ 0 by decide)]
    by_cases c1 : src < 0 ∨ many ≤ src
    · rw [withI_false.2 (by omega), if_pos c1]
      rfl
    · have e : withI src 0 (many - 1) = true := by
        cases e : withI src 0 (many - 1)
        · exact absurd (withI_false.1 e) (by omega)
        · rfl
      rw [e, if_neg c1]
      rfl
  · rw [if_pos h]
    unfold firstE
    rw [if_neg h]
end Go.Proofs.Ytpgdinpckolfpaa
