/- Contracts: the error of a field, in the program and in the reference; places in regions. -/
import Derived.Test.YtbjomkidjccdoaaBaseB
namespace Go.Proofs.Ytbjomkidjccdoaa
open Go.RowKit

theorem fieldE_reg {x y w h : Int} {l : List Nat} (e : regE x y w h ≠ 0) : fieldE x y w h l = regE x y w h := by unfold fieldE; rw [if_pos e]
theorem fieldE_len {x y w h : Int} {l : List Nat} (e : regE x y w h = 0) (k : (l.length : Int) ≠ w * h) : fieldE x y w h l = 2 := by unfold fieldE; rw [if_neg (by simp [e]), if_pos k]
theorem fieldE_num {x y w h : Int} {l : List Nat} (e : regE x y w h = 0) (k : (l.length : Int) = w * h) : fieldE x y w h l = numE l := by unfold fieldE; rw [if_neg (by simp [e]), if_neg (by simp [k])]

end Go.Proofs.Ytbjomkidjccdoaa
