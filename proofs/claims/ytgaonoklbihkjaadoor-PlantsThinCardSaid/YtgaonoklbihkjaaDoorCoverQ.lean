/- What plants cover and shade, cell by cell, plant by plant. No program in sight. -/
import Derived.Test.YtgaonoklbihkjaaDoorCoverA
namespace Go.Proofs.YtgaonoklbihkjaaDoor
open Go.RowKit

theorem Rd.top {w : World} {ad : Addr} {l : List KindR} (h : Rd w (some ad) (kcells l)) {k : Nat} (hk : k < l.length) : w.cell? ⟨(ad.add (k * 13)).block, (ad.add (k * 13)).off + 7, none⟩ = some (.float .f32 l[k].a6) := (h.kind hk).2.2.2.2.2.2.2.1
def PZ : PlantR := ⟨0, 0, 0, 0, 0⟩
def plK (p : List PlantR) (j : Nat) : PlantR := p.getD j PZ
theorem plK_at {p : List PlantR} {j : Nat} (hj : j < p.length) : plK p j = p[j] := by simp [plK, List.getD, hj]
section
variable (X Y : Int) (Wn : Nat) (l : List KindR) (p : List PlantR)
def rJ (j : Nat) : Nat := (spaceOf l (plK p j).kind + 1).toNat
def dJ (j k : Nat) : Nat := sqD (cellP X Y Wn k) (plK p j)
def nJ (j k : Nat) : Bool := decide (dJ X Y Wn p j k < rJ l p j * rJ l p j)
def qJ (j : Nat) : Nat := if gt (topOf l (plK p j).kind) 0 = true then fdiv (plK p j).size (topOf l (plK p j).kind) else 0
def covF : Nat → Nat → Nat
  | 0, _ => 0
  | j + 1, k => if nJ X Y Wn l p j k = true then covS (fmul (qJ l p j) (partF (rJ l p j) (dJ X Y Wn p j k))) (covF j k) else covF j k
def shaF : Nat → Nat → Nat
  | 0, _ => 0
  | j + 1, k => if nJ X Y Wn l p j k = true then fadd (shaF j k) (fmul (plK p j).size (partF (rJ l p j) (dJ X Y Wn p j k))) else shaF j k
/-- the law's sum: the first is taken as it is -/
def shaG : Nat → Nat → Nat × Bool
  | 0, _ => (0, false)
  | j + 1, k => if nJ X Y Wn l p j k = true then (if (shaG j k).2 = true then (fadd (shaG j k).1 (fmul (plK p j).size (partF (rJ l p j) (dJ X Y Wn p j k))), true) else (fmul (plK p j).size (partF (rJ l p j) (dJ X Y Wn p j k)), true)) else shaG j k
end
/-- what holds of a plant that is accepted -/
structure PlOk (l : List KindR) (p : List PlantR) (j : Nat) : Prop where
  idx : ∃ ia, ∃ h2 : ia < l.length, (plK p j).kind = (ia : Nat) ∧ l[ia].p = (rJ l p j : Int) - 1 ∧ l[ia].a6 = topOf l (plK p j).kind
  r1 : 1 ≤ rJ l p j
  r2 : rJ l p j ≤ 33
  far : (plK p j).farB = false
  size : Bd 20 (plK p j).size
  quo : gt (topOf l (plK p j).kind) 0 = true → floatBits .quo .f32 (plK p j).size (topOf l (plK p j).kind) = some (fdiv (plK p j).size (topOf l (plK p j).kind))
  q : Bd 20 (qJ l p j)
theorem zero_bd20 : Bd 20 0 := by unfold Bd; decide
theorem top_pos {t : Nat} (hb : Bd 20 t) (h : gt t 0 = true) : ord 0 t = some .lt := by
  obtain ⟨s, m, k, e, _⟩ := read_bd hb (by omega)
  have o := ord_val e read_zero
  rw [gt_def o] at h
  have h' : ord t 0 = some .gt := by
    rw [o]
    congr 1
    revert h
    cases compare (Ieee.signed s m k) (Ieee.signed false 0 0) <;> simp
  exact (ord_swap hb zero_bd20 (by omega) (by omega)).1 h'
theorem kind_topB {x : KindR} (h : x.err = 0) : Bd 20 x.a6 := by
  unfold KindR.err kindE numsE at h
  split at h
  · split at h
    · contradiction
    · have h2 := (numE_zero (by omega : numE [x.a0, x.a1, x.a2, x.a3, x.a4, x.a5, x.a6, x.a7, x.a8, x.a9] = 0)).2
      exact hgt_bd (h2 _ (by simp))
  · omega
theorem plOk {l : List KindR} {p : List PlantR} (h0 : plantsE l p = 0) {j : Nat} (hj : j < p.length) : PlOk l p j := by
  obtain ⟨hk, _, he⟩ := plantsE_zero h0
  obtain ⟨_, _, hl⟩ := kindsE_zero hk
  obtain ⟨u1, u2, u3, u4, u5⟩ := plantE_zero (he _ (List.getElem_mem hj))
  obtain ⟨v1, v2, v3, v4⟩ := bad_none rfl u5
  have ha : p[j].kind.toNat < l.length := by omega
  have hs := kind_space (hl _ (List.getElem_mem ha))
  have ht := kind_topB (hl _ (List.getElem_mem ha))
  have hsz : Bd 20 p[j].size := num_bd' u4 _ (by simp)
  have ek : p[j].kind = ((p[j].kind.toNat : Nat) : Int) := by omega
  have et : topOf l p[j].kind = l[p[j].kind.toNat].a6 := by rw [congrArg (topOf l) ek]; exact topOf_nat ha
  have es : spaceOf l p[j].kind = l[p[j].kind.toNat].p := by unfold spaceOf; simp [ha]
  have er : rJ l p j = (l[p[j].kind.toNat].p + 1).toNat := by unfold rJ; rw [plK_at hj, es]
  have hq : gt (topOf l p[j].kind) 0 = true → floatBits .quo .f32 p[j].size (topOf l p[j].kind) = some (fdiv p[j].size (topOf l p[j].kind)) ∧ Bd 2 (fdiv p[j].size (topOf l p[j].kind)) := fun hg => by
    rw [et] at hg v2 ⊢
    refine fquot_ok hsz ht (by omega) (by omega) ?_ (top_pos ht hg) ?_
    · intro h
      rw [lt_def h] at v1
      cases v1
    · intro h
      rw [gt_def h] at v2
      cases v2
  refine ⟨?_, ?_, ?_, ?_, ?_, ?_, ?_⟩
  · rw [plK_at hj]
    exact ⟨p[j].kind.toNat, ha, ek, by rw [er]; omega, et.symm⟩
  · rw [er]; omega
  · rw [er]; omega
  · rw [plK_at hj]; exact u3
  · rw [plK_at hj]; exact hsz
  · rw [plK_at hj]; exact fun hg => (hq hg).1
  · unfold qJ
    rw [plK_at hj]
    split
    · rename_i hg
      exact (hq hg).2.mono (by omega)
    · exact zero_bd20
end Go.Proofs.YtgaonoklbihkjaaDoor
