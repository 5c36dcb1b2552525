/-
  No cell of these rows narrows 'for every input' (looked for: loops, veiled, ifaces, maps, wideKeys, modest, calm, conditions, laid).
  DERIVED. THE GIVEN ROWS OF THIS SEAT. 12 by the template 'for every input the law returns true; each argument reads behind the call as it read before'; 0 by the template 'total and deterministic' (their statements: YtinohfgokpbcdaaTotals.lean).
  GIVEN WITH THE SEED: the statements are not yours to turn. If you find one false, say at which input.
  Laid BY PROGRAM, IN A SANDBOX (cutbox-rows.mjs): the forced cells as the released guide's own fill.sh prints them over the translation c2c1600bc27662d2… (all of the seat's roots in one cut). By AI agents, Wed Nov 11 2026. No macro, syntax, notation, axiom, sorry.
-/
import Derived.Test.YtinohfgokpbcdaaChecked
import GoSem.Claim
import GoSem.ClaimJoined
import GoSem.ClaimMapViews
import Derived.JoinedTies
import Derived.KernelRfl
namespace Go.Proofs.Ytinohfgokpbcdaa
/- THE CELL 'sum', in the pinned program and in every row, IS THE sha256 OF THE DUMP (.gsa) THAT YtinohfgokpbcdaaProg.lean LOADS. Nothing in Lean hashes anything: it is a label: what it is worth is what the hold of that sum in a sandbox is worth. -/
noncomputable def Try.pinned : Pinned := { name := "ytinohfgokpbcdaa", sum := "c2c1600bc27662d2f0996819f6ee94334bfa2714a61459f0eafbd3400bd1c7d0", checked := Try.checked }
namespace Rows
def none {H : Type} : Left H := { results := [], args := [] }

/-- 'tarnlaw2.FilledIsLeast': WHATEVER THE INPUT: true; the input reads as it did. -/
def filledIsLeastSpec : ChangeSpec := { name := "filledIsLeast", fn := fun _ => fun
  | [d1, d2] => { results := [.lit (.bool true)], args := [d1, d2] }
  | _ => none }
def filledIsLeastRow : OpenClaim := { program := "ytinohfgokpbcdaa", sum := "c2c1600bc27662d2f0996819f6ee94334bfa2714a61459f0eafbd3400bd1c7d0", func := "tarnfell/tarnlaw2.FilledIsLeast", spec := "filledIsLeast", unfollowed := true, recurses := true, apart := false }
def FilledIsLeastSaid : Prop := filledIsLeastRow.holds Try.pinned (OpenSpec.ofChange filledIsLeastSpec)

/-- ITS FALSE NEIGHBOUR: 'it returns false'. Refute it at one input. -/
def filledIsLeastWrong : ChangeSpec := { name := "filledIsLeast", fn := fun _ => fun
  | [d1, d2] => { results := [.lit (.bool false)], args := [d1, d2] }
  | _ => none }
def FilledIsLeastWrongFalsely : Prop := filledIsLeastRow.holds Try.pinned (OpenSpec.ofChange filledIsLeastWrong)

/-- 'tarnlaw2.ShowersArePlaces': WHATEVER THE INPUT: true; the input reads as it did. -/
def showersArePlacesSpec : ChangeSpec := { name := "showersArePlaces", fn := fun _ => fun
  | [d1, d2, d3] => { results := [.lit (.bool true)], args := [d1, d2, d3] }
  | _ => none }
def showersArePlacesRow : OpenClaim := { program := "ytinohfgokpbcdaa", sum := "c2c1600bc27662d2f0996819f6ee94334bfa2714a61459f0eafbd3400bd1c7d0", func := "tarnfell/tarnlaw2.ShowersArePlaces", spec := "showersArePlaces", unfollowed := true, recurses := true, apart := false }
def ShowersArePlacesSaid : Prop := showersArePlacesRow.holds Try.pinned (OpenSpec.ofChange showersArePlacesSpec)

/-- ITS FALSE NEIGHBOUR: 'it returns false'. Refute it at one input. -/
def showersArePlacesWrong : ChangeSpec := { name := "showersArePlaces", fn := fun _ => fun
  | [d1, d2, d3] => { results := [.lit (.bool false)], args := [d1, d2, d3] }
  | _ => none }
def ShowersArePlacesWrongFalsely : Prop := showersArePlacesRow.holds Try.pinned (OpenSpec.ofChange showersArePlacesWrong)

/-- 'tarnlaw2.DepthMatches': WHATEVER THE INPUT: true; the input reads as it did. -/
def depthMatchesSpec : ChangeSpec := { name := "depthMatches", fn := fun _ => fun
  | [d1, d2, d3] => { results := [.lit (.bool true)], args := [d1, d2, d3] }
  | _ => none }
def depthMatchesRow : OpenClaim := { program := "ytinohfgokpbcdaa", sum := "c2c1600bc27662d2f0996819f6ee94334bfa2714a61459f0eafbd3400bd1c7d0", func := "tarnfell/tarnlaw2.DepthMatches", spec := "depthMatches", inPlace := ["math.sqrt", "math.Float32bits"], unfollowed := true, recurses := true, apart := false }
def DepthMatchesSaid : Prop := depthMatchesRow.holds Try.pinned (OpenSpec.ofChange depthMatchesSpec)

/-- ITS FALSE NEIGHBOUR: 'it returns false'. Refute it at one input. -/
def depthMatchesWrong : ChangeSpec := { name := "depthMatches", fn := fun _ => fun
  | [d1, d2, d3] => { results := [.lit (.bool false)], args := [d1, d2, d3] }
  | _ => none }
def DepthMatchesWrongFalsely : Prop := depthMatchesRow.holds Try.pinned (OpenSpec.ofChange depthMatchesWrong)

/-- 'tarnlaw2.WetMatches': WHATEVER THE INPUT: true; the input reads as it did. -/
def wetMatchesSpec : ChangeSpec := { name := "wetMatches", fn := fun _ => fun
  | [d1, d2] => { results := [.lit (.bool true)], args := [d1, d2] }
  | _ => none }
def wetMatchesRow : OpenClaim := { program := "ytinohfgokpbcdaa", sum := "c2c1600bc27662d2f0996819f6ee94334bfa2714a61459f0eafbd3400bd1c7d0", func := "tarnfell/tarnlaw2.WetMatches", spec := "wetMatches", inPlace := ["math.sqrt", "math.Float32bits"], unfollowed := true, recurses := true, apart := false }
def WetMatchesSaid : Prop := wetMatchesRow.holds Try.pinned (OpenSpec.ofChange wetMatchesSpec)

/-- ITS FALSE NEIGHBOUR: 'it returns false'. Refute it at one input. -/
def wetMatchesWrong : ChangeSpec := { name := "wetMatches", fn := fun _ => fun
  | [d1, d2] => { results := [.lit (.bool false)], args := [d1, d2] }
  | _ => none }
def WetMatchesWrongFalsely : Prop := wetMatchesRow.holds Try.pinned (OpenSpec.ofChange wetMatchesWrong)

/-- 'tarnlaw2.SnowMatches': WHATEVER THE INPUT: true; the input reads as it did. -/
def snowMatchesSpec : ChangeSpec := { name := "snowMatches", fn := fun _ => fun
  | [d1, d2, d3] => { results := [.lit (.bool true)], args := [d1, d2, d3] }
  | _ => none }
def snowMatchesRow : OpenClaim := { program := "ytinohfgokpbcdaa", sum := "c2c1600bc27662d2f0996819f6ee94334bfa2714a61459f0eafbd3400bd1c7d0", func := "tarnfell/tarnlaw2.SnowMatches", spec := "snowMatches", inPlace := ["math.Float64bits", "math.Float64frombits", "math.Float32bits", "math.Float32frombits", "math.archFloor", "math.archTrunc"], unfollowed := true, recurses := true, apart := false }
def SnowMatchesSaid : Prop := snowMatchesRow.holds Try.pinned (OpenSpec.ofChange snowMatchesSpec)

/-- ITS FALSE NEIGHBOUR: 'it returns false'. Refute it at one input. -/
def snowMatchesWrong : ChangeSpec := { name := "snowMatches", fn := fun _ => fun
  | [d1, d2, d3] => { results := [.lit (.bool false)], args := [d1, d2, d3] }
  | _ => none }
def SnowMatchesWrongFalsely : Prop := snowMatchesRow.holds Try.pinned (OpenSpec.ofChange snowMatchesWrong)

/-- 'tarnlaw2.DirsMatch': WHATEVER THE INPUT: true; the input reads as it did. -/
def dirsMatchSpec : ChangeSpec := { name := "dirsMatch", fn := fun _ => fun
  | [d1, d2, d3, d4] => { results := [.lit (.bool true)], args := [d1, d2, d3, d4] }
  | _ => none }
def dirsMatchRow : OpenClaim := { program := "ytinohfgokpbcdaa", sum := "c2c1600bc27662d2f0996819f6ee94334bfa2714a61459f0eafbd3400bd1c7d0", func := "tarnfell/tarnlaw2.DirsMatch", spec := "dirsMatch", inPlace := ["math.sqrt", "math.Float32bits"], unfollowed := true, recurses := true, apart := false }
def DirsMatchSaid : Prop := dirsMatchRow.holds Try.pinned (OpenSpec.ofChange dirsMatchSpec)

/-- ITS FALSE NEIGHBOUR: 'it returns false'. Refute it at one input. -/
def dirsMatchWrong : ChangeSpec := { name := "dirsMatch", fn := fun _ => fun
  | [d1, d2, d3, d4] => { results := [.lit (.bool false)], args := [d1, d2, d3, d4] }
  | _ => none }
def DirsMatchWrongFalsely : Prop := dirsMatchRow.holds Try.pinned (OpenSpec.ofChange dirsMatchWrong)

/-- 'tarnlaw2.BedsAreCut': WHATEVER THE INPUT: true; the input reads as it did. -/
def bedsAreCutSpec : ChangeSpec := { name := "bedsAreCut", fn := fun _ => fun
  | [d1, d2, d3, d4] => { results := [.lit (.bool true)], args := [d1, d2, d3, d4] }
  | _ => none }
def bedsAreCutRow : OpenClaim := { program := "ytinohfgokpbcdaa", sum := "c2c1600bc27662d2f0996819f6ee94334bfa2714a61459f0eafbd3400bd1c7d0", func := "tarnfell/tarnlaw2.BedsAreCut", spec := "bedsAreCut", inPlace := ["math.sqrt", "math.Float32bits"], unfollowed := true, recurses := true, apart := false }
def BedsAreCutSaid : Prop := bedsAreCutRow.holds Try.pinned (OpenSpec.ofChange bedsAreCutSpec)

/-- ITS FALSE NEIGHBOUR: 'it returns false'. Refute it at one input. -/
def bedsAreCutWrong : ChangeSpec := { name := "bedsAreCut", fn := fun _ => fun
  | [d1, d2, d3, d4] => { results := [.lit (.bool false)], args := [d1, d2, d3, d4] }
  | _ => none }
def BedsAreCutWrongFalsely : Prop := bedsAreCutRow.holds Try.pinned (OpenSpec.ofChange bedsAreCutWrong)

/-- 'tarnlaw2.RiversMatch': WHATEVER THE INPUT: true; the input reads as it did. -/
def riversMatchSpec : ChangeSpec := { name := "riversMatch", fn := fun _ => fun
  | [d1, d2, d3, d4] => { results := [.lit (.bool true)], args := [d1, d2, d3, d4] }
  | _ => none }
def riversMatchRow : OpenClaim := { program := "ytinohfgokpbcdaa", sum := "c2c1600bc27662d2f0996819f6ee94334bfa2714a61459f0eafbd3400bd1c7d0", func := "tarnfell/tarnlaw2.RiversMatch", spec := "riversMatch", unfollowed := true, recurses := true, apart := false }
def RiversMatchSaid : Prop := riversMatchRow.holds Try.pinned (OpenSpec.ofChange riversMatchSpec)

/-- ITS FALSE NEIGHBOUR: 'it returns false'. Refute it at one input. -/
def riversMatchWrong : ChangeSpec := { name := "riversMatch", fn := fun _ => fun
  | [d1, d2, d3, d4] => { results := [.lit (.bool false)], args := [d1, d2, d3, d4] }
  | _ => none }
def RiversMatchWrongFalsely : Prop := riversMatchRow.holds Try.pinned (OpenSpec.ofChange riversMatchWrong)

/-- 'tarnlaw2.DrainsAsSaid': WHATEVER THE INPUT: true; the input reads as it did. -/
def drainsAsSaidSpec : ChangeSpec := { name := "drainsAsSaid", fn := fun _ => fun
  | [d] => { results := [.lit (.bool true)], args := [d] }
  | _ => none }
def drainsAsSaidRow : OpenClaim := { program := "ytinohfgokpbcdaa", sum := "c2c1600bc27662d2f0996819f6ee94334bfa2714a61459f0eafbd3400bd1c7d0", func := "tarnfell/tarnlaw2.DrainsAsSaid", spec := "drainsAsSaid", inPlace := ["math.sqrt"], unfollowed := true, recurses := true, apart := false }
def DrainsAsSaidSaid : Prop := drainsAsSaidRow.holds Try.pinned (OpenSpec.ofChange drainsAsSaidSpec)

/-- ITS FALSE NEIGHBOUR: 'it returns false'. Refute it at one input. -/
def drainsAsSaidWrong : ChangeSpec := { name := "drainsAsSaid", fn := fun _ => fun
  | [d] => { results := [.lit (.bool false)], args := [d] }
  | _ => none }
def DrainsAsSaidWrongFalsely : Prop := drainsAsSaidRow.holds Try.pinned (OpenSpec.ofChange drainsAsSaidWrong)

/-- 'tarnlaw2.LakesMatch': WHATEVER THE INPUT: true; the input reads as it did. -/
def lakesMatchSpec : ChangeSpec := { name := "lakesMatch", fn := fun _ => fun
  | [d1, d2, d3] => { results := [.lit (.bool true)], args := [d1, d2, d3] }
  | _ => none }
def lakesMatchRow : OpenClaim := { program := "ytinohfgokpbcdaa", sum := "c2c1600bc27662d2f0996819f6ee94334bfa2714a61459f0eafbd3400bd1c7d0", func := "tarnfell/tarnlaw2.LakesMatch", spec := "lakesMatch", unfollowed := true, recurses := true, apart := false }
def LakesMatchSaid : Prop := lakesMatchRow.holds Try.pinned (OpenSpec.ofChange lakesMatchSpec)

/-- ITS FALSE NEIGHBOUR: 'it returns false'. Refute it at one input. -/
def lakesMatchWrong : ChangeSpec := { name := "lakesMatch", fn := fun _ => fun
  | [d1, d2, d3] => { results := [.lit (.bool false)], args := [d1, d2, d3] }
  | _ => none }
def LakesMatchWrongFalsely : Prop := lakesMatchRow.holds Try.pinned (OpenSpec.ofChange lakesMatchWrong)

/-- 'tarnlaw2.BreachesAsSaid': WHATEVER THE INPUT: true; the input reads as it did. -/
def breachesAsSaidSpec : ChangeSpec := { name := "breachesAsSaid", fn := fun _ => fun
  | [d1, d2] => { results := [.lit (.bool true)], args := [d1, d2] }
  | _ => none }
def breachesAsSaidRow : OpenClaim := { program := "ytinohfgokpbcdaa", sum := "c2c1600bc27662d2f0996819f6ee94334bfa2714a61459f0eafbd3400bd1c7d0", func := "tarnfell/tarnlaw2.BreachesAsSaid", spec := "breachesAsSaid", inPlace := ["math.sqrt", "math.Float32bits"], unfollowed := true, recurses := true, apart := false }
def BreachesAsSaidSaid : Prop := breachesAsSaidRow.holds Try.pinned (OpenSpec.ofChange breachesAsSaidSpec)

/-- ITS FALSE NEIGHBOUR: 'it returns false'. Refute it at one input. -/
def breachesAsSaidWrong : ChangeSpec := { name := "breachesAsSaid", fn := fun _ => fun
  | [d1, d2] => { results := [.lit (.bool false)], args := [d1, d2] }
  | _ => none }
def BreachesAsSaidWrongFalsely : Prop := breachesAsSaidRow.holds Try.pinned (OpenSpec.ofChange breachesAsSaidWrong)

/-- 'tarnlaw2.CarvesAsSaid': WHATEVER THE INPUT: true; the input reads as it did. -/
def carvesAsSaidSpec : ChangeSpec := { name := "carvesAsSaid", fn := fun _ => fun
  | [d1, d2] => { results := [.lit (.bool true)], args := [d1, d2] }
  | _ => none }
def carvesAsSaidRow : OpenClaim := { program := "ytinohfgokpbcdaa", sum := "c2c1600bc27662d2f0996819f6ee94334bfa2714a61459f0eafbd3400bd1c7d0", func := "tarnfell/tarnlaw2.CarvesAsSaid", spec := "carvesAsSaid", inPlace := ["math.sqrt", "math.Float32bits"], unfollowed := true, recurses := true, apart := false }
def CarvesAsSaidSaid : Prop := carvesAsSaidRow.holds Try.pinned (OpenSpec.ofChange carvesAsSaidSpec)

/-- ITS FALSE NEIGHBOUR: 'it returns false'. Refute it at one input. -/
def carvesAsSaidWrong : ChangeSpec := { name := "carvesAsSaid", fn := fun _ => fun
  | [d1, d2] => { results := [.lit (.bool false)], args := [d1, d2] }
  | _ => none }
def CarvesAsSaidWrongFalsely : Prop := carvesAsSaidRow.holds Try.pinned (OpenSpec.ofChange carvesAsSaidWrong)

/- THE SECOND FORM. 'bulk': how many values and letters a reading holds, each counted each time it is reached (what is shared counts as often as it is met; a slice's spare places count too). A statement '..UptoSaid' is the law's where the arguments, and the package variables that the reading takes, are together of bulk at most 1048576: NARROWER than '..Said'. Prove '..Said' where nothing that the law and all that it calls make is longer than what came in: it says more and counts as full. Else prove '..UptoSaid'. A law counts once. -/
mutual
def uptoBulk {H : Type} : DataW H → Nat
  | .lit (.string bytes) => bytes.length + 1
  | .lit _ => 1
  | .nil => 1
  | .ptr d => uptoBulk d + 1
  | .slice elems spare => uptoBulkAll elems + uptoBulkAll spare + 1
  | .agg parts => uptoBulkAll parts + 1
  | .iface _ d => uptoBulk d + 1
  | .map entries => uptoBulkEntries entries + 1
  | .held _ => 1
def uptoBulkAll {H : Type} : List (DataW H) → Nat
  | [] => 0
  | d :: r => uptoBulk d + uptoBulkAll r
def uptoBulkEntries {H : Type} : List (Lit × DataW H) → Nat
  | [] => 0
  | x :: r => uptoBulkEntry x + uptoBulkEntries r
def uptoBulkEntry {H : Type} : Lit × DataW H → Nat
  | (.string bytes, d) => bytes.length + uptoBulk d + 1
  | (_, d) => uptoBulk d + 1
 end
def uptoSmall : (H : Type) → List (DataW H) → Bool := fun _ ds => decide (uptoBulkAll ds ≤ 1048576)
def OpenSpec.upto (s : _root_.Go.ChangeSpec) : _root_.Go.OpenSpec := { _root_.Go.OpenSpec.ofChange s with cond := some uptoSmall }

/-- 'tarnlaw2.FilledIsLeast', WHERE WHAT IT READS IS OF BULK AT MOST 1048576: true; the input reads as it did. -/
def filledIsLeastUptoRow : OpenClaim := { program := "ytinohfgokpbcdaa", sum := "c2c1600bc27662d2f0996819f6ee94334bfa2714a61459f0eafbd3400bd1c7d0", func := "tarnfell/tarnlaw2.FilledIsLeast", spec := "filledIsLeast", unfollowed := true, recurses := true, apart := false, narrowed := true }
def FilledIsLeastUptoSaid : Prop := filledIsLeastUptoRow.holds Try.pinned (OpenSpec.upto filledIsLeastSpec)

/-- 'tarnlaw2.ShowersArePlaces', WHERE WHAT IT READS IS OF BULK AT MOST 1048576: true; the input reads as it did. -/
def showersArePlacesUptoRow : OpenClaim := { program := "ytinohfgokpbcdaa", sum := "c2c1600bc27662d2f0996819f6ee94334bfa2714a61459f0eafbd3400bd1c7d0", func := "tarnfell/tarnlaw2.ShowersArePlaces", spec := "showersArePlaces", unfollowed := true, recurses := true, apart := false, narrowed := true }
def ShowersArePlacesUptoSaid : Prop := showersArePlacesUptoRow.holds Try.pinned (OpenSpec.upto showersArePlacesSpec)

/-- 'tarnlaw2.DepthMatches', WHERE WHAT IT READS IS OF BULK AT MOST 1048576: true; the input reads as it did. -/
def depthMatchesUptoRow : OpenClaim := { program := "ytinohfgokpbcdaa", sum := "c2c1600bc27662d2f0996819f6ee94334bfa2714a61459f0eafbd3400bd1c7d0", func := "tarnfell/tarnlaw2.DepthMatches", spec := "depthMatches", inPlace := ["math.sqrt", "math.Float32bits"], unfollowed := true, recurses := true, apart := false, narrowed := true }
def DepthMatchesUptoSaid : Prop := depthMatchesUptoRow.holds Try.pinned (OpenSpec.upto depthMatchesSpec)

/-- 'tarnlaw2.WetMatches', WHERE WHAT IT READS IS OF BULK AT MOST 1048576: true; the input reads as it did. -/
def wetMatchesUptoRow : OpenClaim := { program := "ytinohfgokpbcdaa", sum := "c2c1600bc27662d2f0996819f6ee94334bfa2714a61459f0eafbd3400bd1c7d0", func := "tarnfell/tarnlaw2.WetMatches", spec := "wetMatches", inPlace := ["math.sqrt", "math.Float32bits"], unfollowed := true, recurses := true, apart := false, narrowed := true }
def WetMatchesUptoSaid : Prop := wetMatchesUptoRow.holds Try.pinned (OpenSpec.upto wetMatchesSpec)

/-- 'tarnlaw2.SnowMatches', WHERE WHAT IT READS IS OF BULK AT MOST 1048576: true; the input reads as it did. -/
def snowMatchesUptoRow : OpenClaim := { program := "ytinohfgokpbcdaa", sum := "c2c1600bc27662d2f0996819f6ee94334bfa2714a61459f0eafbd3400bd1c7d0", func := "tarnfell/tarnlaw2.SnowMatches", spec := "snowMatches", inPlace := ["math.Float64bits", "math.Float64frombits", "math.Float32bits", "math.Float32frombits", "math.archFloor", "math.archTrunc"], unfollowed := true, recurses := true, apart := false, narrowed := true }
def SnowMatchesUptoSaid : Prop := snowMatchesUptoRow.holds Try.pinned (OpenSpec.upto snowMatchesSpec)

/-- 'tarnlaw2.DirsMatch', WHERE WHAT IT READS IS OF BULK AT MOST 1048576: true; the input reads as it did. -/
def dirsMatchUptoRow : OpenClaim := { program := "ytinohfgokpbcdaa", sum := "c2c1600bc27662d2f0996819f6ee94334bfa2714a61459f0eafbd3400bd1c7d0", func := "tarnfell/tarnlaw2.DirsMatch", spec := "dirsMatch", inPlace := ["math.sqrt", "math.Float32bits"], unfollowed := true, recurses := true, apart := false, narrowed := true }
def DirsMatchUptoSaid : Prop := dirsMatchUptoRow.holds Try.pinned (OpenSpec.upto dirsMatchSpec)

/-- 'tarnlaw2.BedsAreCut', WHERE WHAT IT READS IS OF BULK AT MOST 1048576: true; the input reads as it did. -/
def bedsAreCutUptoRow : OpenClaim := { program := "ytinohfgokpbcdaa", sum := "c2c1600bc27662d2f0996819f6ee94334bfa2714a61459f0eafbd3400bd1c7d0", func := "tarnfell/tarnlaw2.BedsAreCut", spec := "bedsAreCut", inPlace := ["math.sqrt", "math.Float32bits"], unfollowed := true, recurses := true, apart := false, narrowed := true }
def BedsAreCutUptoSaid : Prop := bedsAreCutUptoRow.holds Try.pinned (OpenSpec.upto bedsAreCutSpec)

/-- 'tarnlaw2.RiversMatch', WHERE WHAT IT READS IS OF BULK AT MOST 1048576: true; the input reads as it did. -/
def riversMatchUptoRow : OpenClaim := { program := "ytinohfgokpbcdaa", sum := "c2c1600bc27662d2f0996819f6ee94334bfa2714a61459f0eafbd3400bd1c7d0", func := "tarnfell/tarnlaw2.RiversMatch", spec := "riversMatch", unfollowed := true, recurses := true, apart := false, narrowed := true }
def RiversMatchUptoSaid : Prop := riversMatchUptoRow.holds Try.pinned (OpenSpec.upto riversMatchSpec)

/-- 'tarnlaw2.DrainsAsSaid', WHERE WHAT IT READS IS OF BULK AT MOST 1048576: true; the input reads as it did. -/
def drainsAsSaidUptoRow : OpenClaim := { program := "ytinohfgokpbcdaa", sum := "c2c1600bc27662d2f0996819f6ee94334bfa2714a61459f0eafbd3400bd1c7d0", func := "tarnfell/tarnlaw2.DrainsAsSaid", spec := "drainsAsSaid", inPlace := ["math.sqrt"], unfollowed := true, recurses := true, apart := false, narrowed := true }
def DrainsAsSaidUptoSaid : Prop := drainsAsSaidUptoRow.holds Try.pinned (OpenSpec.upto drainsAsSaidSpec)

/-- 'tarnlaw2.LakesMatch', WHERE WHAT IT READS IS OF BULK AT MOST 1048576: true; the input reads as it did. -/
def lakesMatchUptoRow : OpenClaim := { program := "ytinohfgokpbcdaa", sum := "c2c1600bc27662d2f0996819f6ee94334bfa2714a61459f0eafbd3400bd1c7d0", func := "tarnfell/tarnlaw2.LakesMatch", spec := "lakesMatch", unfollowed := true, recurses := true, apart := false, narrowed := true }
def LakesMatchUptoSaid : Prop := lakesMatchUptoRow.holds Try.pinned (OpenSpec.upto lakesMatchSpec)

/-- 'tarnlaw2.BreachesAsSaid', WHERE WHAT IT READS IS OF BULK AT MOST 1048576: true; the input reads as it did. -/
def breachesAsSaidUptoRow : OpenClaim := { program := "ytinohfgokpbcdaa", sum := "c2c1600bc27662d2f0996819f6ee94334bfa2714a61459f0eafbd3400bd1c7d0", func := "tarnfell/tarnlaw2.BreachesAsSaid", spec := "breachesAsSaid", inPlace := ["math.sqrt", "math.Float32bits"], unfollowed := true, recurses := true, apart := false, narrowed := true }
def BreachesAsSaidUptoSaid : Prop := breachesAsSaidUptoRow.holds Try.pinned (OpenSpec.upto breachesAsSaidSpec)

/-- 'tarnlaw2.CarvesAsSaid', WHERE WHAT IT READS IS OF BULK AT MOST 1048576: true; the input reads as it did. -/
def carvesAsSaidUptoRow : OpenClaim := { program := "ytinohfgokpbcdaa", sum := "c2c1600bc27662d2f0996819f6ee94334bfa2714a61459f0eafbd3400bd1c7d0", func := "tarnfell/tarnlaw2.CarvesAsSaid", spec := "carvesAsSaid", inPlace := ["math.sqrt", "math.Float32bits"], unfollowed := true, recurses := true, apart := false, narrowed := true }
def CarvesAsSaidUptoSaid : Prop := carvesAsSaidUptoRow.holds Try.pinned (OpenSpec.upto carvesAsSaidSpec)

end Rows
end Go.Proofs.Ytinohfgokpbcdaa
