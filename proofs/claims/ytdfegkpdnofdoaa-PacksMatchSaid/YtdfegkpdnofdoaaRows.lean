/-
  No cell of these rows narrows 'for every input' (looked for: loops, veiled, ifaces, maps, wideKeys, modest, calm, conditions, laid).
  DERIVED. THE GIVEN ROWS OF THIS SEAT. 5 by the template 'for every input the law returns true; each argument reads behind the call as it read before'; 0 by the template 'total and deterministic' (their statements: YtdfegkpdnofdoaaTotals.lean).
  GIVEN WITH THE SEED: the statements are not yours to turn. If you find one false, say at which input.
  Laid BY PROGRAM, IN A SANDBOX (cutbox-rows.mjs): the forced cells as the released guide's own fill.sh prints them over the translation 73c0095d6caf8343… (all of the seat's roots in one cut). By AI agents, Wed Nov 11 2026. No macro, syntax, notation, axiom, sorry.
-/
import Derived.Test.YtdfegkpdnofdoaaChecked
import GoSem.Claim
import GoSem.ClaimJoined
import GoSem.ClaimMapViews
import Derived.JoinedTies
import Derived.KernelRfl
namespace Go.Proofs.Ytdfegkpdnofdoaa
/- THE CELL 'sum', in the pinned program and in every row, IS THE sha256 OF THE DUMP (.gsa) THAT YtdfegkpdnofdoaaProg.lean LOADS. Nothing in Lean hashes anything: it is a label: what it is worth is what the hold of that sum in a sandbox is worth. -/
noncomputable def Try.pinned : Pinned := { name := "ytdfegkpdnofdoaa", sum := "73c0095d6caf83433fd8c76b210b1b8ca7b86e8e8cfe73ede99c1255817823ed", checked := Try.checked }
namespace Rows
def none {H : Type} : Left H := { results := [], args := [] }

/-- 'tarnlaw2.CamerasMatch': WHATEVER THE INPUT: true; the input reads as it did. -/
def camerasMatchSpec : ChangeSpec := { name := "camerasMatch", fn := fun _ => fun
  | [d1, d2, d3, d4] => { results := [.lit (.bool true)], args := [d1, d2, d3, d4] }
  | _ => none }
def camerasMatchRow : OpenClaim := { program := "ytdfegkpdnofdoaa", sum := "73c0095d6caf83433fd8c76b210b1b8ca7b86e8e8cfe73ede99c1255817823ed", func := "tarnfell/tarnlaw2.CamerasMatch", spec := "camerasMatch", inPlace := ["math.sqrt", "math.archFloor", "math.Float64bits", "math.Float64frombits", "math.archTrunc", "math.Float32bits", "math.RoundToEven"], apart := false }
def CamerasMatchSaid : Prop := camerasMatchRow.holds Try.pinned (OpenSpec.ofChange camerasMatchSpec)

/-- ITS FALSE NEIGHBOUR: 'it returns false'. Refute it at one input. -/
def camerasMatchWrong : ChangeSpec := { name := "camerasMatch", fn := fun _ => fun
  | [d1, d2, d3, d4] => { results := [.lit (.bool false)], args := [d1, d2, d3, d4] }
  | _ => none }
def CamerasMatchWrongFalsely : Prop := camerasMatchRow.holds Try.pinned (OpenSpec.ofChange camerasMatchWrong)

/-- 'tarnlaw2.ScalingsMatch': WHATEVER THE INPUT: true; the input reads as it did. -/
def scalingsMatchSpec : ChangeSpec := { name := "scalingsMatch", fn := fun _ => fun
  | [d1, d2, d3, d4, d5] => { results := [.lit (.bool true)], args := [d1, d2, d3, d4, d5] }
  | _ => none }
def scalingsMatchRow : OpenClaim := { program := "ytdfegkpdnofdoaa", sum := "73c0095d6caf83433fd8c76b210b1b8ca7b86e8e8cfe73ede99c1255817823ed", func := "tarnfell/tarnlaw2.ScalingsMatch", spec := "scalingsMatch", inPlace := ["math.archFloor", "math.Float64bits", "math.Float64frombits", "math.archTrunc", "math.Float32bits", "math.RoundToEven"], apart := false }
def ScalingsMatchSaid : Prop := scalingsMatchRow.holds Try.pinned (OpenSpec.ofChange scalingsMatchSpec)

/-- ITS FALSE NEIGHBOUR: 'it returns false'. Refute it at one input. -/
def scalingsMatchWrong : ChangeSpec := { name := "scalingsMatch", fn := fun _ => fun
  | [d1, d2, d3, d4, d5] => { results := [.lit (.bool false)], args := [d1, d2, d3, d4, d5] }
  | _ => none }
def ScalingsMatchWrongFalsely : Prop := scalingsMatchRow.holds Try.pinned (OpenSpec.ofChange scalingsMatchWrong)

/-- 'tarnlaw2.HalfNumbersMatch': WHATEVER THE INPUT: true; the input reads as it did. -/
def halfNumbersMatchSpec : ChangeSpec := { name := "halfNumbersMatch", fn := fun _ => fun
  | [d1, d2] => { results := [.lit (.bool true)], args := [d1, d2] }
  | _ => none }
def halfNumbersMatchRow : OpenClaim := { program := "ytdfegkpdnofdoaa", sum := "73c0095d6caf83433fd8c76b210b1b8ca7b86e8e8cfe73ede99c1255817823ed", func := "tarnfell/tarnlaw2.HalfNumbersMatch", spec := "halfNumbersMatch", inPlace := ["math.Float64bits", "math.Float64frombits", "math.RoundToEven", "math.Float32bits", "math.Float32frombits", "math.archFloor", "math.archTrunc"], unfollowed := true, recurses := true, apart := false }
def HalfNumbersMatchSaid : Prop := halfNumbersMatchRow.holds Try.pinned (OpenSpec.ofChange halfNumbersMatchSpec)

/-- ITS FALSE NEIGHBOUR: 'it returns false'. Refute it at one input. -/
def halfNumbersMatchWrong : ChangeSpec := { name := "halfNumbersMatch", fn := fun _ => fun
  | [d1, d2] => { results := [.lit (.bool false)], args := [d1, d2] }
  | _ => none }
def HalfNumbersMatchWrongFalsely : Prop := halfNumbersMatchRow.holds Try.pinned (OpenSpec.ofChange halfNumbersMatchWrong)

/-- 'tarnlaw2.HalvesLeadBack': WHATEVER THE INPUT: true; the input reads as it did. -/
def halvesLeadBackSpec : ChangeSpec := { name := "halvesLeadBack", fn := fun _ => fun
  | [d1, d2] => { results := [.lit (.bool true)], args := [d1, d2] }
  | _ => none }
def halvesLeadBackRow : OpenClaim := { program := "ytdfegkpdnofdoaa", sum := "73c0095d6caf83433fd8c76b210b1b8ca7b86e8e8cfe73ede99c1255817823ed", func := "tarnfell/tarnlaw2.HalvesLeadBack", spec := "halvesLeadBack", inPlace := ["math.archFloor", "math.Float64bits", "math.Float64frombits", "math.archTrunc", "math.Float32bits", "math.RoundToEven", "math.Float32frombits"], apart := false }
def HalvesLeadBackSaid : Prop := halvesLeadBackRow.holds Try.pinned (OpenSpec.ofChange halvesLeadBackSpec)

/-- ITS FALSE NEIGHBOUR: 'it returns false'. Refute it at one input. -/
def halvesLeadBackWrong : ChangeSpec := { name := "halvesLeadBack", fn := fun _ => fun
  | [d1, d2] => { results := [.lit (.bool false)], args := [d1, d2] }
  | _ => none }
def HalvesLeadBackWrongFalsely : Prop := halvesLeadBackRow.holds Try.pinned (OpenSpec.ofChange halvesLeadBackWrong)

/-- 'tarnlaw2.PacksMatch': WHATEVER THE INPUT: true; the input reads as it did. -/
def packsMatchSpec : ChangeSpec := { name := "packsMatch", fn := fun _ => fun
  | [d1, d2] => { results := [.lit (.bool true)], args := [d1, d2] }
  | _ => none }
def packsMatchRow : OpenClaim := { program := "ytdfegkpdnofdoaa", sum := "73c0095d6caf83433fd8c76b210b1b8ca7b86e8e8cfe73ede99c1255817823ed", func := "tarnfell/tarnlaw2.PacksMatch", spec := "packsMatch", inPlace := ["math.archFloor", "math.Float64bits", "math.Float64frombits", "math.archTrunc", "math.Float32bits", "math.RoundToEven"], apart := false }
def PacksMatchSaid : Prop := packsMatchRow.holds Try.pinned (OpenSpec.ofChange packsMatchSpec)

/-- ITS FALSE NEIGHBOUR: 'it returns false'. Refute it at one input. -/
def packsMatchWrong : ChangeSpec := { name := "packsMatch", fn := fun _ => fun
  | [d1, d2] => { results := [.lit (.bool false)], args := [d1, d2] }
  | _ => none }
def PacksMatchWrongFalsely : Prop := packsMatchRow.holds Try.pinned (OpenSpec.ofChange packsMatchWrong)

/- THE SECOND FORM. 'bulk': how many values and letters a reading holds, each counted each time it is reached (what is shared counts as often as it is met; a slice's spare places count too). A statement '..UptoSaid' is the law's where the arguments, and the package variables that the reading takes, are together of bulk at most 1048576: NARROWER than '..Said'. Prove '..Said' where nothing that the law and all that it calls make is longer than what came in: it says more and counts as full. Else prove '..UptoSaid'. A law counts once. -/
mutual
def uptoBulk {H : Type} : DataW H → Nat
  | .lit (.string bytes) => bytes.length + 1
  | .lit _ => 1
  | .nil => 1
  | .ptr d => uptoBulk d + 1
  | .slice elems spare => uptoBulkAll elems + uptoBulkAll spare + 1
  | .agg parts => uptoBulkAll parts + 1
  | .iface _ d => uptoBulk d + 1
  | .map entries => uptoBulkEntries entries + 1
  | .held _ => 1
def uptoBulkAll {H : Type} : List (DataW H) → Nat
  | [] => 0
  | d :: r => uptoBulk d + uptoBulkAll r
def uptoBulkEntries {H : Type} : List (Lit × DataW H) → Nat
  | [] => 0
  | x :: r => uptoBulkEntry x + uptoBulkEntries r
def uptoBulkEntry {H : Type} : Lit × DataW H → Nat
  | (.string bytes, d) => bytes.length + uptoBulk d + 1
  | (_, d) => uptoBulk d + 1
 end
def uptoSmall : (H : Type) → List (DataW H) → Bool := fun _ ds => decide (uptoBulkAll ds ≤ 1048576)
def OpenSpec.upto (s : _root_.Go.ChangeSpec) : _root_.Go.OpenSpec := { _root_.Go.OpenSpec.ofChange s with cond := some uptoSmall }

/-- 'tarnlaw2.CamerasMatch', WHERE WHAT IT READS IS OF BULK AT MOST 1048576: true; the input reads as it did. -/
def camerasMatchUptoRow : OpenClaim := { program := "ytdfegkpdnofdoaa", sum := "73c0095d6caf83433fd8c76b210b1b8ca7b86e8e8cfe73ede99c1255817823ed", func := "tarnfell/tarnlaw2.CamerasMatch", spec := "camerasMatch", inPlace := ["math.sqrt", "math.archFloor", "math.Float64bits", "math.Float64frombits", "math.archTrunc", "math.Float32bits", "math.RoundToEven"], apart := false, narrowed := true }
def CamerasMatchUptoSaid : Prop := camerasMatchUptoRow.holds Try.pinned (OpenSpec.upto camerasMatchSpec)

/-- 'tarnlaw2.ScalingsMatch', WHERE WHAT IT READS IS OF BULK AT MOST 1048576: true; the input reads as it did. -/
def scalingsMatchUptoRow : OpenClaim := { program := "ytdfegkpdnofdoaa", sum := "73c0095d6caf83433fd8c76b210b1b8ca7b86e8e8cfe73ede99c1255817823ed", func := "tarnfell/tarnlaw2.ScalingsMatch", spec := "scalingsMatch", inPlace := ["math.archFloor", "math.Float64bits", "math.Float64frombits", "math.archTrunc", "math.Float32bits", "math.RoundToEven"], apart := false, narrowed := true }
def ScalingsMatchUptoSaid : Prop := scalingsMatchUptoRow.holds Try.pinned (OpenSpec.upto scalingsMatchSpec)

/-- 'tarnlaw2.HalfNumbersMatch', WHERE WHAT IT READS IS OF BULK AT MOST 1048576: true; the input reads as it did. -/
def halfNumbersMatchUptoRow : OpenClaim := { program := "ytdfegkpdnofdoaa", sum := "73c0095d6caf83433fd8c76b210b1b8ca7b86e8e8cfe73ede99c1255817823ed", func := "tarnfell/tarnlaw2.HalfNumbersMatch", spec := "halfNumbersMatch", inPlace := ["math.Float64bits", "math.Float64frombits", "math.RoundToEven", "math.Float32bits", "math.Float32frombits", "math.archFloor", "math.archTrunc"], unfollowed := true, recurses := true, apart := false, narrowed := true }
def HalfNumbersMatchUptoSaid : Prop := halfNumbersMatchUptoRow.holds Try.pinned (OpenSpec.upto halfNumbersMatchSpec)

/-- 'tarnlaw2.HalvesLeadBack', WHERE WHAT IT READS IS OF BULK AT MOST 1048576: true; the input reads as it did. -/
def halvesLeadBackUptoRow : OpenClaim := { program := "ytdfegkpdnofdoaa", sum := "73c0095d6caf83433fd8c76b210b1b8ca7b86e8e8cfe73ede99c1255817823ed", func := "tarnfell/tarnlaw2.HalvesLeadBack", spec := "halvesLeadBack", inPlace := ["math.archFloor", "math.Float64bits", "math.Float64frombits", "math.archTrunc", "math.Float32bits", "math.RoundToEven", "math.Float32frombits"], apart := false, narrowed := true }
def HalvesLeadBackUptoSaid : Prop := halvesLeadBackUptoRow.holds Try.pinned (OpenSpec.upto halvesLeadBackSpec)

/-- 'tarnlaw2.PacksMatch', WHERE WHAT IT READS IS OF BULK AT MOST 1048576: true; the input reads as it did. -/
def packsMatchUptoRow : OpenClaim := { program := "ytdfegkpdnofdoaa", sum := "73c0095d6caf83433fd8c76b210b1b8ca7b86e8e8cfe73ede99c1255817823ed", func := "tarnfell/tarnlaw2.PacksMatch", spec := "packsMatch", inPlace := ["math.archFloor", "math.Float64bits", "math.Float64frombits", "math.archTrunc", "math.Float32bits", "math.RoundToEven"], apart := false, narrowed := true }
def PacksMatchUptoSaid : Prop := packsMatchUptoRow.holds Try.pinned (OpenSpec.upto packsMatchSpec)

end Rows
end Go.Proofs.Ytdfegkpdnofdoaa
