/-
  No cell of these rows narrows 'for every input' (looked for: loops, veiled, ifaces, maps, wideKeys, modest, calm, conditions, laid).
  DERIVED. THE GIVEN ROWS OF THIS SEAT. 10 by the template 'for every input the law returns true; each argument reads behind the call as it read before'; 0 by the template 'total and deterministic' (their statements: YtpgdinpckolfpaaTotals.lean).
  GIVEN WITH THE SEED: the statements are not yours to turn. If you find one false, say at which input.
  Laid BY PROGRAM, IN A SANDBOX (cutbox-rows.mjs): the forced cells as the released guide's own fill.sh prints them over the translation 761910607efd59a5… (all of the seat's roots in one cut). By AI agents, Wed Nov 11 2026. No macro, syntax, notation, axiom, sorry.
-/
import Derived.Test.YtpgdinpckolfpaaChecked
import GoSem.Claim
import GoSem.ClaimJoined
import GoSem.ClaimMapViews
import Derived.JoinedTies
import Derived.KernelRfl
namespace Go.Proofs.Ytpgdinpckolfpaa
/- THE CELL 'sum', in the pinned program and in every row, IS THE sha256 OF THE DUMP (.gsa) THAT YtpgdinpckolfpaaProg.lean LOADS. Nothing in Lean hashes anything: it is a label: what it is worth is what the hold of that sum in a sandbox is worth. -/
noncomputable def Try.pinned : Pinned := { name := "ytpgdinpckolfpaa", sum := "761910607efd59a5538127d82bc340c29c43bdc9e44463faf6ab53d55d0c8810", checked := Try.checked }
namespace Rows
def none {H : Type} : Left H := { results := [], args := [] }

/-- 'tarnlaw2.RulesMatch': WHATEVER THE INPUT: true; the input reads as it did. -/
def rulesMatchSpec : ChangeSpec := { name := "rulesMatch", fn := fun _ => fun
  | [d1, d2, d3, d4] => { results := [.lit (.bool true)], args := [d1, d2, d3, d4] }
  | _ => none }
def rulesMatchRow : OpenClaim := { program := "ytpgdinpckolfpaa", sum := "761910607efd59a5538127d82bc340c29c43bdc9e44463faf6ab53d55d0c8810", func := "tarnfell/tarnlaw2.RulesMatch", spec := "rulesMatch", inPlace := ["math.Float64bits", "math.Float64frombits", "math.sqrt", "math.Float32bits", "math.Float32frombits"], unfollowed := true, recurses := true, apart := false }
def RulesMatchSaid : Prop := rulesMatchRow.holds Try.pinned (OpenSpec.ofChange rulesMatchSpec)

/-- ITS FALSE NEIGHBOUR: 'it returns false'. Refute it at one input. -/
def rulesMatchWrong : ChangeSpec := { name := "rulesMatch", fn := fun _ => fun
  | [d1, d2, d3, d4] => { results := [.lit (.bool false)], args := [d1, d2, d3, d4] }
  | _ => none }
def RulesMatchWrongFalsely : Prop := rulesMatchRow.holds Try.pinned (OpenSpec.ofChange rulesMatchWrong)

/-- 'tarnlaw2.PricesMatch': WHATEVER THE INPUT: true; the input reads as it did. -/
def pricesMatchSpec : ChangeSpec := { name := "pricesMatch", fn := fun _ => fun
  | [d1, d2, d3] => { results := [.lit (.bool true)], args := [d1, d2, d3] }
  | _ => none }
def pricesMatchRow : OpenClaim := { program := "ytpgdinpckolfpaa", sum := "761910607efd59a5538127d82bc340c29c43bdc9e44463faf6ab53d55d0c8810", func := "tarnfell/tarnlaw2.PricesMatch", spec := "pricesMatch", inPlace := ["math.Float64bits", "math.Float64frombits", "math.sqrt", "math.Float32bits", "math.Float32frombits"], unfollowed := true, recurses := true, apart := false }
def PricesMatchSaid : Prop := pricesMatchRow.holds Try.pinned (OpenSpec.ofChange pricesMatchSpec)

/-- ITS FALSE NEIGHBOUR: 'it returns false'. Refute it at one input. -/
def pricesMatchWrong : ChangeSpec := { name := "pricesMatch", fn := fun _ => fun
  | [d1, d2, d3] => { results := [.lit (.bool false)], args := [d1, d2, d3] }
  | _ => none }
def PricesMatchWrongFalsely : Prop := pricesMatchRow.holds Try.pinned (OpenSpec.ofChange pricesMatchWrong)

/-- 'tarnlaw2.WaysMatch': WHATEVER THE INPUT: true; the input reads as it did. -/
def waysMatchSpec : ChangeSpec := { name := "waysMatch", fn := fun _ => fun
  | [d1, d2, d3, d4] => { results := [.lit (.bool true)], args := [d1, d2, d3, d4] }
  | _ => none }
def waysMatchRow : OpenClaim := { program := "ytpgdinpckolfpaa", sum := "761910607efd59a5538127d82bc340c29c43bdc9e44463faf6ab53d55d0c8810", func := "tarnfell/tarnlaw2.WaysMatch", spec := "waysMatch", inPlace := ["math.Float64bits", "math.Float64frombits", "math.sqrt", "math.Float32bits", "math.Float32frombits"], unfollowed := true, recurses := true, apart := false }
def WaysMatchSaid : Prop := waysMatchRow.holds Try.pinned (OpenSpec.ofChange waysMatchSpec)

/-- ITS FALSE NEIGHBOUR: 'it returns false'. Refute it at one input. -/
def waysMatchWrong : ChangeSpec := { name := "waysMatch", fn := fun _ => fun
  | [d1, d2, d3, d4] => { results := [.lit (.bool false)], args := [d1, d2, d3, d4] }
  | _ => none }
def WaysMatchWrongFalsely : Prop := waysMatchRow.holds Try.pinned (OpenSpec.ofChange waysMatchWrong)

/-- 'tarnlaw2.CostsAreLeast': WHATEVER THE INPUT: true; the input reads as it did. -/
def costsAreLeastSpec : ChangeSpec := { name := "costsAreLeast", fn := fun _ => fun
  | [d1, d2, d3, d4] => { results := [.lit (.bool true)], args := [d1, d2, d3, d4] }
  | _ => none }
def costsAreLeastRow : OpenClaim := { program := "ytpgdinpckolfpaa", sum := "761910607efd59a5538127d82bc340c29c43bdc9e44463faf6ab53d55d0c8810", func := "tarnfell/tarnlaw2.CostsAreLeast", spec := "costsAreLeast", inPlace := ["math.Float64bits", "math.Float64frombits", "math.sqrt", "math.Float32bits", "math.Float32frombits"], unfollowed := true, recurses := true, apart := false }
def CostsAreLeastSaid : Prop := costsAreLeastRow.holds Try.pinned (OpenSpec.ofChange costsAreLeastSpec)

/-- ITS FALSE NEIGHBOUR: 'it returns false'. Refute it at one input. -/
def costsAreLeastWrong : ChangeSpec := { name := "costsAreLeast", fn := fun _ => fun
  | [d1, d2, d3, d4] => { results := [.lit (.bool false)], args := [d1, d2, d3, d4] }
  | _ => none }
def CostsAreLeastWrongFalsely : Prop := costsAreLeastRow.holds Try.pinned (OpenSpec.ofChange costsAreLeastWrong)

/-- 'tarnlaw2.StraightMatches': WHATEVER THE INPUT: true; the input reads as it did. -/
def straightMatchesSpec : ChangeSpec := { name := "straightMatches", fn := fun _ => fun
  | [d] => { results := [.lit (.bool true)], args := [d] }
  | _ => none }
def straightMatchesRow : OpenClaim := { program := "ytpgdinpckolfpaa", sum := "761910607efd59a5538127d82bc340c29c43bdc9e44463faf6ab53d55d0c8810", func := "tarnfell/tarnlaw2.StraightMatches", spec := "straightMatches", inPlace := ["math.Float64bits", "math.Float64frombits"], unfollowed := true, recurses := true, apart := false }
def StraightMatchesSaid : Prop := straightMatchesRow.holds Try.pinned (OpenSpec.ofChange straightMatchesSpec)

/-- ITS FALSE NEIGHBOUR: 'it returns false'. Refute it at one input. -/
def straightMatchesWrong : ChangeSpec := { name := "straightMatches", fn := fun _ => fun
  | [d] => { results := [.lit (.bool false)], args := [d] }
  | _ => none }
def StraightMatchesWrongFalsely : Prop := straightMatchesRow.holds Try.pinned (OpenSpec.ofChange straightMatchesWrong)

/-- 'tarnlaw2.CornersMatch': WHATEVER THE INPUT: true; the input reads as it did. -/
def cornersMatchSpec : ChangeSpec := { name := "cornersMatch", fn := fun _ => fun
  | [d] => { results := [.lit (.bool true)], args := [d] }
  | _ => none }
def cornersMatchRow : OpenClaim := { program := "ytpgdinpckolfpaa", sum := "761910607efd59a5538127d82bc340c29c43bdc9e44463faf6ab53d55d0c8810", func := "tarnfell/tarnlaw2.CornersMatch", spec := "cornersMatch", inPlace := ["math.Float64bits", "math.Float64frombits"], unfollowed := true, recurses := true, apart := false }
def CornersMatchSaid : Prop := cornersMatchRow.holds Try.pinned (OpenSpec.ofChange cornersMatchSpec)

/-- ITS FALSE NEIGHBOUR: 'it returns false'. Refute it at one input. -/
def cornersMatchWrong : ChangeSpec := { name := "cornersMatch", fn := fun _ => fun
  | [d] => { results := [.lit (.bool false)], args := [d] }
  | _ => none }
def CornersMatchWrongFalsely : Prop := cornersMatchRow.holds Try.pinned (OpenSpec.ofChange cornersMatchWrong)

/-- 'tarnlaw2.RoundedMatches': WHATEVER THE INPUT: true; the input reads as it did. -/
def roundedMatchesSpec : ChangeSpec := { name := "roundedMatches", fn := fun _ => fun
  | [d1, d2] => { results := [.lit (.bool true)], args := [d1, d2] }
  | _ => none }
def roundedMatchesRow : OpenClaim := { program := "ytpgdinpckolfpaa", sum := "761910607efd59a5538127d82bc340c29c43bdc9e44463faf6ab53d55d0c8810", func := "tarnfell/tarnlaw2.RoundedMatches", spec := "roundedMatches", inPlace := ["math.Float64bits", "math.Float64frombits", "math.Float32bits"], unfollowed := true, recurses := true, apart := false }
def RoundedMatchesSaid : Prop := roundedMatchesRow.holds Try.pinned (OpenSpec.ofChange roundedMatchesSpec)

/-- ITS FALSE NEIGHBOUR: 'it returns false'. Refute it at one input. -/
def roundedMatchesWrong : ChangeSpec := { name := "roundedMatches", fn := fun _ => fun
  | [d1, d2] => { results := [.lit (.bool false)], args := [d1, d2] }
  | _ => none }
def RoundedMatchesWrongFalsely : Prop := roundedMatchesRow.holds Try.pinned (OpenSpec.ofChange roundedMatchesWrong)

/-- 'tarnlaw2.TripsMatch': WHATEVER THE INPUT: true; the input reads as it did. -/
def tripsMatchSpec : ChangeSpec := { name := "tripsMatch", fn := fun _ => fun
  | [d1, d2, d3] => { results := [.lit (.bool true)], args := [d1, d2, d3] }
  | _ => none }
def tripsMatchRow : OpenClaim := { program := "ytpgdinpckolfpaa", sum := "761910607efd59a5538127d82bc340c29c43bdc9e44463faf6ab53d55d0c8810", func := "tarnfell/tarnlaw2.TripsMatch", spec := "tripsMatch", inPlace := ["math.Float64bits", "math.Float64frombits"], unfollowed := true, recurses := true, apart := false }
def TripsMatchSaid : Prop := tripsMatchRow.holds Try.pinned (OpenSpec.ofChange tripsMatchSpec)

/-- ITS FALSE NEIGHBOUR: 'it returns false'. Refute it at one input. -/
def tripsMatchWrong : ChangeSpec := { name := "tripsMatch", fn := fun _ => fun
  | [d1, d2, d3] => { results := [.lit (.bool false)], args := [d1, d2, d3] }
  | _ => none }
def TripsMatchWrongFalsely : Prop := tripsMatchRow.holds Try.pinned (OpenSpec.ofChange tripsMatchWrong)

/-- 'tarnlaw2.BedsMatch': WHATEVER THE INPUT: true; the input reads as it did. -/
def bedsMatchSpec : ChangeSpec := { name := "bedsMatch", fn := fun _ => fun
  | [d1, d2, d3, d4] => { results := [.lit (.bool true)], args := [d1, d2, d3, d4] }
  | _ => none }
def bedsMatchRow : OpenClaim := { program := "ytpgdinpckolfpaa", sum := "761910607efd59a5538127d82bc340c29c43bdc9e44463faf6ab53d55d0c8810", func := "tarnfell/tarnlaw2.BedsMatch", spec := "bedsMatch", inPlace := ["math.Float64bits", "math.Float64frombits", "math.sqrt", "math.Float32bits", "math.Float32frombits"], unfollowed := true, recurses := true, apart := false }
def BedsMatchSaid : Prop := bedsMatchRow.holds Try.pinned (OpenSpec.ofChange bedsMatchSpec)

/-- ITS FALSE NEIGHBOUR: 'it returns false'. Refute it at one input. -/
def bedsMatchWrong : ChangeSpec := { name := "bedsMatch", fn := fun _ => fun
  | [d1, d2, d3, d4] => { results := [.lit (.bool false)], args := [d1, d2, d3, d4] }
  | _ => none }
def BedsMatchWrongFalsely : Prop := bedsMatchRow.holds Try.pinned (OpenSpec.ofChange bedsMatchWrong)

/-- 'tarnlaw2.BuildsAsSaid': WHATEVER THE INPUT: true; the input reads as it did. -/
def buildsAsSaidSpec : ChangeSpec := { name := "buildsAsSaid", fn := fun _ => fun
  | [d1, d2, d3, d4, d5] => { results := [.lit (.bool true)], args := [d1, d2, d3, d4, d5] }
  | _ => none }
def buildsAsSaidRow : OpenClaim := { program := "ytpgdinpckolfpaa", sum := "761910607efd59a5538127d82bc340c29c43bdc9e44463faf6ab53d55d0c8810", func := "tarnfell/tarnlaw2.BuildsAsSaid", spec := "buildsAsSaid", inPlace := ["math.sqrt", "math.Float64bits", "math.Float64frombits", "math.Float32bits"], unfollowed := true, recurses := true, apart := false }
def BuildsAsSaidSaid : Prop := buildsAsSaidRow.holds Try.pinned (OpenSpec.ofChange buildsAsSaidSpec)

/-- ITS FALSE NEIGHBOUR: 'it returns false'. Refute it at one input. -/
def buildsAsSaidWrong : ChangeSpec := { name := "buildsAsSaid", fn := fun _ => fun
  | [d1, d2, d3, d4, d5] => { results := [.lit (.bool false)], args := [d1, d2, d3, d4, d5] }
  | _ => none }
def BuildsAsSaidWrongFalsely : Prop := buildsAsSaidRow.holds Try.pinned (OpenSpec.ofChange buildsAsSaidWrong)

/- THE SECOND FORM. 'bulk': how many values and letters a reading holds, each counted each time it is reached (what is shared counts as often as it is met; a slice's spare places count too). A statement '..UptoSaid' is the law's where the arguments, and the package variables that the reading takes, are together of bulk at most 1048576: NARROWER than '..Said'. Prove '..Said' where nothing that the law and all that it calls make is longer than what came in: it says more and counts as full. Else prove '..UptoSaid'. A law counts once. -/
mutual
def uptoBulk {H : Type} : DataW H → Nat
  | .lit (.string bytes) => bytes.length + 1
  | .lit _ => 1
  | .nil => 1
  | .ptr d => uptoBulk d + 1
  | .slice elems spare => uptoBulkAll elems + uptoBulkAll spare + 1
  | .agg parts => uptoBulkAll parts + 1
  | .iface _ d => uptoBulk d + 1
  | .map entries => uptoBulkEntries entries + 1
  | .held _ => 1
def uptoBulkAll {H : Type} : List (DataW H) → Nat
  | [] => 0
  | d :: r => uptoBulk d + uptoBulkAll r
def uptoBulkEntries {H : Type} : List (Lit × DataW H) → Nat
  | [] => 0
  | x :: r => uptoBulkEntry x + uptoBulkEntries r
def uptoBulkEntry {H : Type} : Lit × DataW H → Nat
  | (.string bytes, d) => bytes.length + uptoBulk d + 1
  | (_, d) => uptoBulk d + 1
 end
def uptoSmall : (H : Type) → List (DataW H) → Bool := fun _ ds => decide (uptoBulkAll ds ≤ 1048576)
def OpenSpec.upto (s : _root_.Go.ChangeSpec) : _root_.Go.OpenSpec := { _root_.Go.OpenSpec.ofChange s with cond := some uptoSmall }

/-- 'tarnlaw2.RulesMatch', WHERE WHAT IT READS IS OF BULK AT MOST 1048576: true; the input reads as it did. -/
def rulesMatchUptoRow : OpenClaim := { program := "ytpgdinpckolfpaa", sum := "761910607efd59a5538127d82bc340c29c43bdc9e44463faf6ab53d55d0c8810", func := "tarnfell/tarnlaw2.RulesMatch", spec := "rulesMatch", inPlace := ["math.Float64bits", "math.Float64frombits", "math.sqrt", "math.Float32bits", "math.Float32frombits"], unfollowed := true, recurses := true, apart := false, narrowed := true }
def RulesMatchUptoSaid : Prop := rulesMatchUptoRow.holds Try.pinned (OpenSpec.upto rulesMatchSpec)

/-- 'tarnlaw2.PricesMatch', WHERE WHAT IT READS IS OF BULK AT MOST 1048576: true; the input reads as it did. -/
def pricesMatchUptoRow : OpenClaim := { program := "ytpgdinpckolfpaa", sum := "761910607efd59a5538127d82bc340c29c43bdc9e44463faf6ab53d55d0c8810", func := "tarnfell/tarnlaw2.PricesMatch", spec := "pricesMatch", inPlace := ["math.Float64bits", "math.Float64frombits", "math.sqrt", "math.Float32bits", "math.Float32frombits"], unfollowed := true, recurses := true, apart := false, narrowed := true }
def PricesMatchUptoSaid : Prop := pricesMatchUptoRow.holds Try.pinned (OpenSpec.upto pricesMatchSpec)

/-- 'tarnlaw2.WaysMatch', WHERE WHAT IT READS IS OF BULK AT MOST 1048576: true; the input reads as it did. -/
def waysMatchUptoRow : OpenClaim := { program := "ytpgdinpckolfpaa", sum := "761910607efd59a5538127d82bc340c29c43bdc9e44463faf6ab53d55d0c8810", func := "tarnfell/tarnlaw2.WaysMatch", spec := "waysMatch", inPlace := ["math.Float64bits", "math.Float64frombits", "math.sqrt", "math.Float32bits", "math.Float32frombits"], unfollowed := true, recurses := true, apart := false, narrowed := true }
def WaysMatchUptoSaid : Prop := waysMatchUptoRow.holds Try.pinned (OpenSpec.upto waysMatchSpec)

/-- 'tarnlaw2.CostsAreLeast', WHERE WHAT IT READS IS OF BULK AT MOST 1048576: true; the input reads as it did. -/
def costsAreLeastUptoRow : OpenClaim := { program := "ytpgdinpckolfpaa", sum := "761910607efd59a5538127d82bc340c29c43bdc9e44463faf6ab53d55d0c8810", func := "tarnfell/tarnlaw2.CostsAreLeast", spec := "costsAreLeast", inPlace := ["math.Float64bits", "math.Float64frombits", "math.sqrt", "math.Float32bits", "math.Float32frombits"], unfollowed := true, recurses := true, apart := false, narrowed := true }
def CostsAreLeastUptoSaid : Prop := costsAreLeastUptoRow.holds Try.pinned (OpenSpec.upto costsAreLeastSpec)

/-- 'tarnlaw2.StraightMatches', WHERE WHAT IT READS IS OF BULK AT MOST 1048576: true; the input reads as it did. -/
def straightMatchesUptoRow : OpenClaim := { program := "ytpgdinpckolfpaa", sum := "761910607efd59a5538127d82bc340c29c43bdc9e44463faf6ab53d55d0c8810", func := "tarnfell/tarnlaw2.StraightMatches", spec := "straightMatches", inPlace := ["math.Float64bits", "math.Float64frombits"], unfollowed := true, recurses := true, apart := false, narrowed := true }
def StraightMatchesUptoSaid : Prop := straightMatchesUptoRow.holds Try.pinned (OpenSpec.upto straightMatchesSpec)

/-- 'tarnlaw2.CornersMatch', WHERE WHAT IT READS IS OF BULK AT MOST 1048576: true; the input reads as it did. -/
def cornersMatchUptoRow : OpenClaim := { program := "ytpgdinpckolfpaa", sum := "761910607efd59a5538127d82bc340c29c43bdc9e44463faf6ab53d55d0c8810", func := "tarnfell/tarnlaw2.CornersMatch", spec := "cornersMatch", inPlace := ["math.Float64bits", "math.Float64frombits"], unfollowed := true, recurses := true, apart := false, narrowed := true }
def CornersMatchUptoSaid : Prop := cornersMatchUptoRow.holds Try.pinned (OpenSpec.upto cornersMatchSpec)

/-- 'tarnlaw2.RoundedMatches', WHERE WHAT IT READS IS OF BULK AT MOST 1048576: true; the input reads as it did. -/
def roundedMatchesUptoRow : OpenClaim := { program := "ytpgdinpckolfpaa", sum := "761910607efd59a5538127d82bc340c29c43bdc9e44463faf6ab53d55d0c8810", func := "tarnfell/tarnlaw2.RoundedMatches", spec := "roundedMatches", inPlace := ["math.Float64bits", "math.Float64frombits", "math.Float32bits"], unfollowed := true, recurses := true, apart := false, narrowed := true }
def RoundedMatchesUptoSaid : Prop := roundedMatchesUptoRow.holds Try.pinned (OpenSpec.upto roundedMatchesSpec)

/-- 'tarnlaw2.TripsMatch', WHERE WHAT IT READS IS OF BULK AT MOST 1048576: true; the input reads as it did. -/
def tripsMatchUptoRow : OpenClaim := { program := "ytpgdinpckolfpaa", sum := "761910607efd59a5538127d82bc340c29c43bdc9e44463faf6ab53d55d0c8810", func := "tarnfell/tarnlaw2.TripsMatch", spec := "tripsMatch", inPlace := ["math.Float64bits", "math.Float64frombits"], unfollowed := true, recurses := true, apart := false, narrowed := true }
def TripsMatchUptoSaid : Prop := tripsMatchUptoRow.holds Try.pinned (OpenSpec.upto tripsMatchSpec)

/-- 'tarnlaw2.BedsMatch', WHERE WHAT IT READS IS OF BULK AT MOST 1048576: true; the input reads as it did. -/
def bedsMatchUptoRow : OpenClaim := { program := "ytpgdinpckolfpaa", sum := "761910607efd59a5538127d82bc340c29c43bdc9e44463faf6ab53d55d0c8810", func := "tarnfell/tarnlaw2.BedsMatch", spec := "bedsMatch", inPlace := ["math.Float64bits", "math.Float64frombits", "math.sqrt", "math.Float32bits", "math.Float32frombits"], unfollowed := true, recurses := true, apart := false, narrowed := true }
def BedsMatchUptoSaid : Prop := bedsMatchUptoRow.holds Try.pinned (OpenSpec.upto bedsMatchSpec)

/-- 'tarnlaw2.BuildsAsSaid', WHERE WHAT IT READS IS OF BULK AT MOST 1048576: true; the input reads as it did. -/
def buildsAsSaidUptoRow : OpenClaim := { program := "ytpgdinpckolfpaa", sum := "761910607efd59a5538127d82bc340c29c43bdc9e44463faf6ab53d55d0c8810", func := "tarnfell/tarnlaw2.BuildsAsSaid", spec := "buildsAsSaid", inPlace := ["math.sqrt", "math.Float64bits", "math.Float64frombits", "math.Float32bits"], unfollowed := true, recurses := true, apart := false, narrowed := true }
def BuildsAsSaidUptoSaid : Prop := buildsAsSaidUptoRow.holds Try.pinned (OpenSpec.upto buildsAsSaidSpec)

end Rows
end Go.Proofs.Ytpgdinpckolfpaa
