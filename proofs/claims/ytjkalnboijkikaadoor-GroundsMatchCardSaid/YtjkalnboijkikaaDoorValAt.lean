/- The value of a field at a place. No program in sight. -/
import Derived.Test.YtjkalnboijkikaaDoorPlaces
import Derived.Test.YtjkalnboijkikaaDoorFloatE
namespace Go.Proofs.YtjkalnboijkikaaDoor
open Go.RowKit

def valAt (X Y W : Int) (l : List Nat) (p : Int × Int) : Nat := l.getD (cellN X Y W p.1 p.2).toNat 0

theorem valAt_get {X Y W H x y : Int} {l : List Nat} (hr : RegOk X Y W H) (h : InR X Y W H x y) (hn : (l.length : Int) = W * H) :
    ∃ k : Nat, cellN X Y W x y = k ∧ k < l.length ∧ l[k]? = some (valAt X Y W l (x, y)) := by
  obtain ⟨b1, b2, b3, b4, b5, b6⟩ := cell_bd hr h
  have h0 : 0 ≤ cellN X Y W x y := by unfold cellN; omega
  obtain ⟨k, hk⟩ := Int.eq_ofNat_of_zero_le h0
  have hkl : k < l.length := by
    have : (k : Int) < l.length := by rw [← hk, hn]; unfold cellN; omega
    omega
  refine ⟨k, hk, hkl, ?_⟩
  simp [valAt, hk, List.getD, hkl]

theorem fieldE_parts {X Y W H : Int} {l : List Nat} (h : fieldE X Y W H l = 0) : regE X Y W H = 0 ∧ (l.length : Int) = W * H ∧ numE l = 0 := by
  unfold fieldE at h
  split at h
  · contradiction
  · split at h
    · simp at h
    · rename_i h1 h2
      exact ⟨by simpa using h1, by simpa using h2, h⟩
end Go.Proofs.YtjkalnboijkikaaDoor
