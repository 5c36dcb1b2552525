/- The walk of the law SightsMatch, both cases. -/
import Derived.Test.YtjfipkccbapajaaSightsF
import Derived.Test.YtjfipkccbapajaaSightsG
namespace Go.Proofs.Ytjfipkccbapajaa
open Go.RowKit
theorem sights_walk (X Y W H ax ay bx by' far dir : Int) (A : Option Addr) (n c eye : Nat) (l : List Nat) (w : World) (hn : l.length = n) (hd : Rd w A (flt l)) (hb : n ≤ 140737488351232) :
    Calls Try.prog 9 #[.agg #[.int .i64 X, .int .i64 Y, .int .i64 W, .int .i64 H, .slice A n c], .agg #[.int .i64 ax, .int .i64 ay], .agg #[.int .i64 bx, .int .i64 by'], .float .f32 eye, .int .i64 far, .int .i64 dir] w fun e w' => e = .returned (.bool true) ∧ Ext w w' := by
  by_cases hE : askE X Y W H l eye ax ay = 0
  · exact sights_B X Y W H ax ay bx by' far dir A n c eye l w hn hd hb hE
  · exact sights_A X Y W H ax ay bx by' far dir A n c eye l w hn hd hb hE
end Go.Proofs.Ytjfipkccbapajaa
