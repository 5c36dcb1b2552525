/-
  No cell of these rows narrows 'for every input' (looked for: loops, veiled, ifaces, maps, wideKeys, modest, calm, conditions, laid).
  DERIVED. THE GIVEN ROWS OF THIS SEAT. 9 by the template 'for every input the law returns true; each argument reads behind the call as it read before'; 0 by the template 'total and deterministic' (their statements: YtjfipkccbapajaaTotals.lean).
  GIVEN WITH THE SEED: the statements are not yours to turn. If you find one false, say at which input.
  Laid BY PROGRAM, IN A SANDBOX (cutbox-rows.mjs): the forced cells as the released guide's own fill.sh prints them over the translation 8d2018be087c9ab3… (all of the seat's roots in one cut). By AI agents, Wed Nov 11 2026. No macro, syntax, notation, axiom, sorry.
-/
import Derived.Test.YtjfipkccbapajaaChecked
import GoSem.Claim
import GoSem.ClaimJoined
import GoSem.ClaimMapViews
import Derived.JoinedTies
import Derived.KernelRfl
namespace Go.Proofs.Ytjfipkccbapajaa
/- THE CELL 'sum', in the pinned program and in every row, IS THE sha256 OF THE DUMP (.gsa) THAT YtjfipkccbapajaaProg.lean LOADS. Nothing in Lean hashes anything: it is a label: what it is worth is what the hold of that sum in a sandbox is worth. -/
noncomputable def Try.pinned : Pinned := { name := "ytjfipkccbapajaa", sum := "8d2018be087c9ab34f04cd27bbdde9fdf5bb9d2891101e06919e1ad88c0c0e45", checked := Try.checked }
namespace Rows
def none {H : Type} : Left H := { results := [], args := [] }

/-- 'tarnlaw2.CracksMatch': WHATEVER THE INPUT: true; the input reads as it did. -/
def cracksMatchSpec : ChangeSpec := { name := "cracksMatch", fn := fun _ => fun
  | [d1, d2] => { results := [.lit (.bool true)], args := [d1, d2] }
  | _ => none }
def cracksMatchRow : OpenClaim := { program := "ytjfipkccbapajaa", sum := "8d2018be087c9ab34f04cd27bbdde9fdf5bb9d2891101e06919e1ad88c0c0e45", func := "tarnfell/tarnlaw2.CracksMatch", spec := "cracksMatch", unfollowed := true, recurses := true, plainKeys := false, apart := false }
def CracksMatchSaid : Prop := cracksMatchRow.holds Try.pinned (OpenSpec.ofChange cracksMatchSpec)

/-- ITS FALSE NEIGHBOUR: 'it returns false'. Refute it at one input. -/
def cracksMatchWrong : ChangeSpec := { name := "cracksMatch", fn := fun _ => fun
  | [d1, d2] => { results := [.lit (.bool false)], args := [d1, d2] }
  | _ => none }
def CracksMatchWrongFalsely : Prop := cracksMatchRow.holds Try.pinned (OpenSpec.ofChange cracksMatchWrong)

/-- 'tarnlaw2.LinesMatch': WHATEVER THE INPUT: true; the input reads as it did. -/
def linesMatchSpec : ChangeSpec := { name := "linesMatch", fn := fun _ => fun
  | [d1, d2, d3] => { results := [.lit (.bool true)], args := [d1, d2, d3] }
  | _ => none }
def linesMatchRow : OpenClaim := { program := "ytjfipkccbapajaa", sum := "8d2018be087c9ab34f04cd27bbdde9fdf5bb9d2891101e06919e1ad88c0c0e45", func := "tarnfell/tarnlaw2.LinesMatch", spec := "linesMatch", inPlace := ["math.Float32bits"], unfollowed := true, recurses := true, plainKeys := false, apart := false }
def LinesMatchSaid : Prop := linesMatchRow.holds Try.pinned (OpenSpec.ofChange linesMatchSpec)

/-- ITS FALSE NEIGHBOUR: 'it returns false'. Refute it at one input. -/
def linesMatchWrong : ChangeSpec := { name := "linesMatch", fn := fun _ => fun
  | [d1, d2, d3] => { results := [.lit (.bool false)], args := [d1, d2, d3] }
  | _ => none }
def LinesMatchWrongFalsely : Prop := linesMatchRow.holds Try.pinned (OpenSpec.ofChange linesMatchWrong)

/-- 'tarnlaw2.PyramidsMatch': WHATEVER THE INPUT: true; the input reads as it did. -/
def pyramidsMatchSpec : ChangeSpec := { name := "pyramidsMatch", fn := fun _ => fun
  | [d1, d2, d3] => { results := [.lit (.bool true)], args := [d1, d2, d3] }
  | _ => none }
def pyramidsMatchRow : OpenClaim := { program := "ytjfipkccbapajaa", sum := "8d2018be087c9ab34f04cd27bbdde9fdf5bb9d2891101e06919e1ad88c0c0e45", func := "tarnfell/tarnlaw2.PyramidsMatch", spec := "pyramidsMatch", inPlace := ["math.Float64bits", "math.Float64frombits", "math.Float32bits", "math.Float32frombits"], unfollowed := true, recurses := true, plainKeys := false, apart := false }
def PyramidsMatchSaid : Prop := pyramidsMatchRow.holds Try.pinned (OpenSpec.ofChange pyramidsMatchSpec)

/-- ITS FALSE NEIGHBOUR: 'it returns false'. Refute it at one input. -/
def pyramidsMatchWrong : ChangeSpec := { name := "pyramidsMatch", fn := fun _ => fun
  | [d1, d2, d3] => { results := [.lit (.bool false)], args := [d1, d2, d3] }
  | _ => none }
def PyramidsMatchWrongFalsely : Prop := pyramidsMatchRow.holds Try.pinned (OpenSpec.ofChange pyramidsMatchWrong)

/-- 'tarnlaw2.BoundsRefuse': WHATEVER THE INPUT: true; the input reads as it did. -/
def boundsRefuseSpec : ChangeSpec := { name := "boundsRefuse", fn := fun _ => fun
  | [d1, d2, d3, d4] => { results := [.lit (.bool true)], args := [d1, d2, d3, d4] }
  | _ => none }
def boundsRefuseRow : OpenClaim := { program := "ytjfipkccbapajaa", sum := "8d2018be087c9ab34f04cd27bbdde9fdf5bb9d2891101e06919e1ad88c0c0e45", func := "tarnfell/tarnlaw2.BoundsRefuse", spec := "boundsRefuse", inPlace := ["math.Float32bits", "math.Float32frombits"], unfollowed := true, recurses := true, plainKeys := false, apart := false }
def BoundsRefuseSaid : Prop := boundsRefuseRow.holds Try.pinned (OpenSpec.ofChange boundsRefuseSpec)

/-- ITS FALSE NEIGHBOUR: 'it returns false'. Refute it at one input. -/
def boundsRefuseWrong : ChangeSpec := { name := "boundsRefuse", fn := fun _ => fun
  | [d1, d2, d3, d4] => { results := [.lit (.bool false)], args := [d1, d2, d3, d4] }
  | _ => none }
def BoundsRefuseWrongFalsely : Prop := boundsRefuseRow.holds Try.pinned (OpenSpec.ofChange boundsRefuseWrong)

/-- 'tarnlaw2.MeshesMatch': WHATEVER THE INPUT: true; the input reads as it did. -/
def meshesMatchSpec : ChangeSpec := { name := "meshesMatch", fn := fun _ => fun
  | [d1, d2, d3, d4] => { results := [.lit (.bool true)], args := [d1, d2, d3, d4] }
  | _ => none }
def meshesMatchRow : OpenClaim := { program := "ytjfipkccbapajaa", sum := "8d2018be087c9ab34f04cd27bbdde9fdf5bb9d2891101e06919e1ad88c0c0e45", func := "tarnfell/tarnlaw2.MeshesMatch", spec := "meshesMatch", inPlace := ["math.Float64bits", "math.Float64frombits", "math.Float32bits", "math.Float32frombits"], unfollowed := true, recurses := true, plainKeys := false, apart := false }
def MeshesMatchSaid : Prop := meshesMatchRow.holds Try.pinned (OpenSpec.ofChange meshesMatchSpec)

/-- ITS FALSE NEIGHBOUR: 'it returns false'. Refute it at one input. -/
def meshesMatchWrong : ChangeSpec := { name := "meshesMatch", fn := fun _ => fun
  | [d1, d2, d3, d4] => { results := [.lit (.bool false)], args := [d1, d2, d3, d4] }
  | _ => none }
def MeshesMatchWrongFalsely : Prop := meshesMatchRow.holds Try.pinned (OpenSpec.ofChange meshesMatchWrong)

/-- 'tarnlaw2.RaysStrike': WHATEVER THE INPUT: true; the input reads as it did. -/
def raysStrikeSpec : ChangeSpec := { name := "raysStrike", fn := fun _ => fun
  | [d1, d2] => { results := [.lit (.bool true)], args := [d1, d2] }
  | _ => none }
def raysStrikeRow : OpenClaim := { program := "ytjfipkccbapajaa", sum := "8d2018be087c9ab34f04cd27bbdde9fdf5bb9d2891101e06919e1ad88c0c0e45", func := "tarnfell/tarnlaw2.RaysStrike", spec := "raysStrike", inPlace := ["math.Float32bits", "math.Float32frombits"], unfollowed := true, recurses := true, plainKeys := false, apart := false }
def RaysStrikeSaid : Prop := raysStrikeRow.holds Try.pinned (OpenSpec.ofChange raysStrikeSpec)

/-- ITS FALSE NEIGHBOUR: 'it returns false'. Refute it at one input. -/
def raysStrikeWrong : ChangeSpec := { name := "raysStrike", fn := fun _ => fun
  | [d1, d2] => { results := [.lit (.bool false)], args := [d1, d2] }
  | _ => none }
def RaysStrikeWrongFalsely : Prop := raysStrikeRow.holds Try.pinned (OpenSpec.ofChange raysStrikeWrong)

/-- 'tarnlaw2.SightsMatch': WHATEVER THE INPUT: true; the input reads as it did. -/
def sightsMatchSpec : ChangeSpec := { name := "sightsMatch", fn := fun _ => fun
  | [d1, d2, d3, d4, d5, d6] => { results := [.lit (.bool true)], args := [d1, d2, d3, d4, d5, d6] }
  | _ => none }
def sightsMatchRow : OpenClaim := { program := "ytjfipkccbapajaa", sum := "8d2018be087c9ab34f04cd27bbdde9fdf5bb9d2891101e06919e1ad88c0c0e45", func := "tarnfell/tarnlaw2.SightsMatch", spec := "sightsMatch", inPlace := ["math.sqrt"], unfollowed := true, recurses := true, plainKeys := false, apart := false }
def SightsMatchSaid : Prop := sightsMatchRow.holds Try.pinned (OpenSpec.ofChange sightsMatchSpec)

/-- ITS FALSE NEIGHBOUR: 'it returns false'. Refute it at one input. -/
def sightsMatchWrong : ChangeSpec := { name := "sightsMatch", fn := fun _ => fun
  | [d1, d2, d3, d4, d5, d6] => { results := [.lit (.bool false)], args := [d1, d2, d3, d4, d5, d6] }
  | _ => none }
def SightsMatchWrongFalsely : Prop := sightsMatchRow.holds Try.pinned (OpenSpec.ofChange sightsMatchWrong)

/-- 'tarnlaw2.PatchesMatch': WHATEVER THE INPUT: true; the input reads as it did. -/
def patchesMatchSpec : ChangeSpec := { name := "patchesMatch", fn := fun _ => fun
  | [d1, d2, d3] => { results := [.lit (.bool true)], args := [d1, d2, d3] }
  | _ => none }
def patchesMatchRow : OpenClaim := { program := "ytjfipkccbapajaa", sum := "8d2018be087c9ab34f04cd27bbdde9fdf5bb9d2891101e06919e1ad88c0c0e45", func := "tarnfell/tarnlaw2.PatchesMatch", spec := "patchesMatch", inPlace := ["math.sqrt", "math.Float64bits", "math.Float64frombits", "math.Float32bits", "math.Float32frombits"], unfollowed := true, recurses := true, plainKeys := false, apart := false }
def PatchesMatchSaid : Prop := patchesMatchRow.holds Try.pinned (OpenSpec.ofChange patchesMatchSpec)

/-- ITS FALSE NEIGHBOUR: 'it returns false'. Refute it at one input. -/
def patchesMatchWrong : ChangeSpec := { name := "patchesMatch", fn := fun _ => fun
  | [d1, d2, d3] => { results := [.lit (.bool false)], args := [d1, d2, d3] }
  | _ => none }
def PatchesMatchWrongFalsely : Prop := patchesMatchRow.holds Try.pinned (OpenSpec.ofChange patchesMatchWrong)

/-- 'tarnlaw2.ContoursMatch': WHATEVER THE INPUT: true; the input reads as it did. -/
def contoursMatchSpec : ChangeSpec := { name := "contoursMatch", fn := fun _ => fun
  | [d1, d2] => { results := [.lit (.bool true)], args := [d1, d2] }
  | _ => none }
def contoursMatchRow : OpenClaim := { program := "ytjfipkccbapajaa", sum := "8d2018be087c9ab34f04cd27bbdde9fdf5bb9d2891101e06919e1ad88c0c0e45", func := "tarnfell/tarnlaw2.ContoursMatch", spec := "contoursMatch", unfollowed := true, recurses := true, plainKeys := false, apart := false }
def ContoursMatchSaid : Prop := contoursMatchRow.holds Try.pinned (OpenSpec.ofChange contoursMatchSpec)

/-- ITS FALSE NEIGHBOUR: 'it returns false'. Refute it at one input. -/
def contoursMatchWrong : ChangeSpec := { name := "contoursMatch", fn := fun _ => fun
  | [d1, d2] => { results := [.lit (.bool false)], args := [d1, d2] }
  | _ => none }
def ContoursMatchWrongFalsely : Prop := contoursMatchRow.holds Try.pinned (OpenSpec.ofChange contoursMatchWrong)

/- THE SECOND FORM. 'bulk': how many values and letters a reading holds, each counted each time it is reached (what is shared counts as often as it is met; a slice's spare places count too). A statement '..UptoSaid' is the law's where the arguments, and the package variables that the reading takes, are together of bulk at most 1048576: NARROWER than '..Said'. Prove '..Said' where nothing that the law and all that it calls make is longer than what came in: it says more and counts as full. Else prove '..UptoSaid'. A law counts once. -/
mutual
def uptoBulk {H : Type} : DataW H → Nat
  | .lit (.string bytes) => bytes.length + 1
  | .lit _ => 1
  | .nil => 1
  | .ptr d => uptoBulk d + 1
  | .slice elems spare => uptoBulkAll elems + uptoBulkAll spare + 1
  | .agg parts => uptoBulkAll parts + 1
  | .iface _ d => uptoBulk d + 1
  | .map entries => uptoBulkEntries entries + 1
  | .held _ => 1
def uptoBulkAll {H : Type} : List (DataW H) → Nat
  | [] => 0
  | d :: r => uptoBulk d + uptoBulkAll r
def uptoBulkEntries {H : Type} : List (Lit × DataW H) → Nat
  | [] => 0
  | x :: r => uptoBulkEntry x + uptoBulkEntries r
def uptoBulkEntry {H : Type} : Lit × DataW H → Nat
  | (.string bytes, d) => bytes.length + uptoBulk d + 1
  | (_, d) => uptoBulk d + 1
 end
def uptoSmall : (H : Type) → List (DataW H) → Bool := fun _ ds => decide (uptoBulkAll ds ≤ 1048576)
def OpenSpec.upto (s : _root_.Go.ChangeSpec) : _root_.Go.OpenSpec := { _root_.Go.OpenSpec.ofChange s with cond := some uptoSmall }

/-- 'tarnlaw2.CracksMatch', WHERE WHAT IT READS IS OF BULK AT MOST 1048576: true; the input reads as it did. -/
def cracksMatchUptoRow : OpenClaim := { program := "ytjfipkccbapajaa", sum := "8d2018be087c9ab34f04cd27bbdde9fdf5bb9d2891101e06919e1ad88c0c0e45", func := "tarnfell/tarnlaw2.CracksMatch", spec := "cracksMatch", unfollowed := true, recurses := true, plainKeys := false, apart := false, narrowed := true }
def CracksMatchUptoSaid : Prop := cracksMatchUptoRow.holds Try.pinned (OpenSpec.upto cracksMatchSpec)

/-- 'tarnlaw2.LinesMatch', WHERE WHAT IT READS IS OF BULK AT MOST 1048576: true; the input reads as it did. -/
def linesMatchUptoRow : OpenClaim := { program := "ytjfipkccbapajaa", sum := "8d2018be087c9ab34f04cd27bbdde9fdf5bb9d2891101e06919e1ad88c0c0e45", func := "tarnfell/tarnlaw2.LinesMatch", spec := "linesMatch", inPlace := ["math.Float32bits"], unfollowed := true, recurses := true, plainKeys := false, apart := false, narrowed := true }
def LinesMatchUptoSaid : Prop := linesMatchUptoRow.holds Try.pinned (OpenSpec.upto linesMatchSpec)

/-- 'tarnlaw2.PyramidsMatch', WHERE WHAT IT READS IS OF BULK AT MOST 1048576: true; the input reads as it did. -/
def pyramidsMatchUptoRow : OpenClaim := { program := "ytjfipkccbapajaa", sum := "8d2018be087c9ab34f04cd27bbdde9fdf5bb9d2891101e06919e1ad88c0c0e45", func := "tarnfell/tarnlaw2.PyramidsMatch", spec := "pyramidsMatch", inPlace := ["math.Float64bits", "math.Float64frombits", "math.Float32bits", "math.Float32frombits"], unfollowed := true, recurses := true, plainKeys := false, apart := false, narrowed := true }
def PyramidsMatchUptoSaid : Prop := pyramidsMatchUptoRow.holds Try.pinned (OpenSpec.upto pyramidsMatchSpec)

/-- 'tarnlaw2.BoundsRefuse', WHERE WHAT IT READS IS OF BULK AT MOST 1048576: true; the input reads as it did. -/
def boundsRefuseUptoRow : OpenClaim := { program := "ytjfipkccbapajaa", sum := "8d2018be087c9ab34f04cd27bbdde9fdf5bb9d2891101e06919e1ad88c0c0e45", func := "tarnfell/tarnlaw2.BoundsRefuse", spec := "boundsRefuse", inPlace := ["math.Float32bits", "math.Float32frombits"], unfollowed := true, recurses := true, plainKeys := false, apart := false, narrowed := true }
def BoundsRefuseUptoSaid : Prop := boundsRefuseUptoRow.holds Try.pinned (OpenSpec.upto boundsRefuseSpec)

/-- 'tarnlaw2.MeshesMatch', WHERE WHAT IT READS IS OF BULK AT MOST 1048576: true; the input reads as it did. -/
def meshesMatchUptoRow : OpenClaim := { program := "ytjfipkccbapajaa", sum := "8d2018be087c9ab34f04cd27bbdde9fdf5bb9d2891101e06919e1ad88c0c0e45", func := "tarnfell/tarnlaw2.MeshesMatch", spec := "meshesMatch", inPlace := ["math.Float64bits", "math.Float64frombits", "math.Float32bits", "math.Float32frombits"], unfollowed := true, recurses := true, plainKeys := false, apart := false, narrowed := true }
def MeshesMatchUptoSaid : Prop := meshesMatchUptoRow.holds Try.pinned (OpenSpec.upto meshesMatchSpec)

/-- 'tarnlaw2.RaysStrike', WHERE WHAT IT READS IS OF BULK AT MOST 1048576: true; the input reads as it did. -/
def raysStrikeUptoRow : OpenClaim := { program := "ytjfipkccbapajaa", sum := "8d2018be087c9ab34f04cd27bbdde9fdf5bb9d2891101e06919e1ad88c0c0e45", func := "tarnfell/tarnlaw2.RaysStrike", spec := "raysStrike", inPlace := ["math.Float32bits", "math.Float32frombits"], unfollowed := true, recurses := true, plainKeys := false, apart := false, narrowed := true }
def RaysStrikeUptoSaid : Prop := raysStrikeUptoRow.holds Try.pinned (OpenSpec.upto raysStrikeSpec)

/-- 'tarnlaw2.SightsMatch', WHERE WHAT IT READS IS OF BULK AT MOST 1048576: true; the input reads as it did. -/
def sightsMatchUptoRow : OpenClaim := { program := "ytjfipkccbapajaa", sum := "8d2018be087c9ab34f04cd27bbdde9fdf5bb9d2891101e06919e1ad88c0c0e45", func := "tarnfell/tarnlaw2.SightsMatch", spec := "sightsMatch", inPlace := ["math.sqrt"], unfollowed := true, recurses := true, plainKeys := false, apart := false, narrowed := true }
def SightsMatchUptoSaid : Prop := sightsMatchUptoRow.holds Try.pinned (OpenSpec.upto sightsMatchSpec)

/-- 'tarnlaw2.PatchesMatch', WHERE WHAT IT READS IS OF BULK AT MOST 1048576: true; the input reads as it did. -/
def patchesMatchUptoRow : OpenClaim := { program := "ytjfipkccbapajaa", sum := "8d2018be087c9ab34f04cd27bbdde9fdf5bb9d2891101e06919e1ad88c0c0e45", func := "tarnfell/tarnlaw2.PatchesMatch", spec := "patchesMatch", inPlace := ["math.sqrt", "math.Float64bits", "math.Float64frombits", "math.Float32bits", "math.Float32frombits"], unfollowed := true, recurses := true, plainKeys := false, apart := false, narrowed := true }
def PatchesMatchUptoSaid : Prop := patchesMatchUptoRow.holds Try.pinned (OpenSpec.upto patchesMatchSpec)

/-- 'tarnlaw2.ContoursMatch', WHERE WHAT IT READS IS OF BULK AT MOST 1048576: true; the input reads as it did. -/
def contoursMatchUptoRow : OpenClaim := { program := "ytjfipkccbapajaa", sum := "8d2018be087c9ab34f04cd27bbdde9fdf5bb9d2891101e06919e1ad88c0c0e45", func := "tarnfell/tarnlaw2.ContoursMatch", spec := "contoursMatch", unfollowed := true, recurses := true, plainKeys := false, apart := false, narrowed := true }
def ContoursMatchUptoSaid : Prop := contoursMatchUptoRow.holds Try.pinned (OpenSpec.upto contoursMatchSpec)

end Rows
end Go.Proofs.Ytjfipkccbapajaa
