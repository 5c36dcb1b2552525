/-
  NARROWER THAN 'FOR EVERY INPUT', by the rows' own cells (each row's printed sentence says how): CrowdsMatch: laid · CountsMatch: laid · CoversMatch: laid · FiresGo: laid · PlantsThin: laid.
  DERIVED. THE GIVEN ROWS OF THIS SEAT. 5 by the template 'for every input the law returns true; each argument reads behind the call as it read before'; 0 by the template 'total and deterministic' (their statements: YtgaonoklbihkjaaDoorTotals.lean).
  GIVEN WITH THE SEED: the statements are not yours to turn. If you find one false, say at which input.
  Laid BY PROGRAM, IN A SANDBOX (cutbox-rows.mjs): the forced cells as the released guide's own fill.sh prints them over the translation e8c90de1d70e0bb9… (all of the seat's roots in one cut). By AI agents, Wed Nov 11 2026. No macro, syntax, notation, axiom, sorry.
-/
import Derived.Test.YtgaonoklbihkjaaDoorChecked
import GoSem.PinnedTables
import GoSem.Claim
import GoSem.ClaimJoined
import GoSem.ClaimMapViews
import Derived.JoinedTies
import Derived.KernelRfl
namespace Go.Proofs.YtgaonoklbihkjaaDoor
/- THE CELL 'sum', in the pinned program and in every row, IS THE sha256 OF THE DUMP (.gsa) THAT YtgaonoklbihkjaaDoorProg.lean LOADS. Nothing in Lean hashes anything: it is a label: what it is worth is what the hold of that sum in a sandbox is worth. -/
noncomputable def Tryd.pinned : Pinned := { name := "ytgaonoklbihkjaadoor", sum := "e8c90de1d70e0bb92bc200da4acc23948be5c5e33e223cf9c2854c56504234ff", checked := Tryd.checked }
namespace Rows
def none {H : Type} : Left H := { results := [], args := [] }

/- WHAT THE LISTED PACKAGE-LEVEL VARIABLES READ AS WHEN THE CALL BEGINS. Each datum BY PROGRAM (the guide's laid-datum.mjs) off the statement by which the dump's own 'gosem.cut.vars' lays the variable. In a bare row this is a premise. The card (YtgaonoklbihkjaaDoorCards.lean) ties it to the program's text. -/
def laid_unicode_utf8_acceptRanges {H : Type} : DataW H := .agg [.agg [.lit (.int .u8 128), .lit (.int .u8 191)], .agg [.lit (.int .u8 160), .lit (.int .u8 191)], .agg [.lit (.int .u8 128), .lit (.int .u8 159)], .agg [.lit (.int .u8 144), .lit (.int .u8 191)], .agg [.lit (.int .u8 128), .lit (.int .u8 143)], .agg [.lit (.int .u8 0), .lit (.int .u8 0)], .agg [.lit (.int .u8 0), .lit (.int .u8 0)], .agg [.lit (.int .u8 0), .lit (.int .u8 0)], .agg [.lit (.int .u8 0), .lit (.int .u8 0)], .agg [.lit (.int .u8 0), .lit (.int .u8 0)], .agg [.lit (.int .u8 0), .lit (.int .u8 0)], .agg [.lit (.int .u8 0), .lit (.int .u8 0)], .agg [.lit (.int .u8 0), .lit (.int .u8 0)], .agg [.lit (.int .u8 0), .lit (.int .u8 0)], .agg [.lit (.int .u8 0), .lit (.int .u8 0)], .agg [.lit (.int .u8 0), .lit (.int .u8 0)]]
/-- One of Go's own tables, pinned by name: the form's constant. -/
def laid_unicode_utf8_first : DataW Unit := Go.Pinned.utf8First

/-- 'tarnlaw2.CrowdsMatch': WHATEVER THE INPUT: true; the input reads as it did. -/
def crowdsMatchSpec : ChangeSpec := { name := "crowdsMatch", fn := fun _ => fun
  | [d1, d2, d3] => { results := [.lit (.bool true)], args := [d1, d2, d3] }
  | _ => none }
def crowdsMatchRow : OpenClaim := { program := "ytgaonoklbihkjaadoor", sum := "e8c90de1d70e0bb92bc200da4acc23948be5c5e33e223cf9c2854c56504234ff", func := "tarnfell/tarnlaw2.CrowdsMatch", spec := "crowdsMatch", inPlace := ["internal/bytealg.IndexByteString", "internal/bytealg.IndexString", "math.sqrt"], named := ["unicode/utf8.first", "unicode/utf8.acceptRanges", "internal/bytealg.MaxLen"], apart := false, laid := [("unicode/utf8.acceptRanges", laid_unicode_utf8_acceptRanges), ("unicode/utf8.first", laid_unicode_utf8_first)] }
def CrowdsMatchSaid : Prop := crowdsMatchRow.holds Tryd.pinned (OpenSpec.ofChange crowdsMatchSpec)

/-- ITS FALSE NEIGHBOUR: 'it returns false'. Refute it at one input. -/
def crowdsMatchWrong : ChangeSpec := { name := "crowdsMatch", fn := fun _ => fun
  | [d1, d2, d3] => { results := [.lit (.bool false)], args := [d1, d2, d3] }
  | _ => none }
def CrowdsMatchWrongFalsely : Prop := crowdsMatchRow.holds Tryd.pinned (OpenSpec.ofChange crowdsMatchWrong)

/-- 'tarnlaw2.CountsMatch': WHATEVER THE INPUT: true; the input reads as it did. -/
def countsMatchSpec : ChangeSpec := { name := "countsMatch", fn := fun _ => fun
  | [d1, d2, d3] => { results := [.lit (.bool true)], args := [d1, d2, d3] }
  | _ => none }
def countsMatchRow : OpenClaim := { program := "ytgaonoklbihkjaadoor", sum := "e8c90de1d70e0bb92bc200da4acc23948be5c5e33e223cf9c2854c56504234ff", func := "tarnfell/tarnlaw2.CountsMatch", spec := "countsMatch", inPlace := ["internal/bytealg.IndexByteString", "internal/bytealg.IndexString"], named := ["unicode/utf8.first", "unicode/utf8.acceptRanges", "internal/bytealg.MaxLen"], apart := false, laid := [("unicode/utf8.acceptRanges", laid_unicode_utf8_acceptRanges), ("unicode/utf8.first", laid_unicode_utf8_first)] }
def CountsMatchSaid : Prop := countsMatchRow.holds Tryd.pinned (OpenSpec.ofChange countsMatchSpec)

/-- ITS FALSE NEIGHBOUR: 'it returns false'. Refute it at one input. -/
def countsMatchWrong : ChangeSpec := { name := "countsMatch", fn := fun _ => fun
  | [d1, d2, d3] => { results := [.lit (.bool false)], args := [d1, d2, d3] }
  | _ => none }
def CountsMatchWrongFalsely : Prop := countsMatchRow.holds Tryd.pinned (OpenSpec.ofChange countsMatchWrong)

/-- 'tarnlaw2.CoversMatch': WHATEVER THE INPUT: true; the input reads as it did. -/
def coversMatchSpec : ChangeSpec := { name := "coversMatch", fn := fun _ => fun
  | [d1, d2, d3] => { results := [.lit (.bool true)], args := [d1, d2, d3] }
  | _ => none }
def coversMatchRow : OpenClaim := { program := "ytgaonoklbihkjaadoor", sum := "e8c90de1d70e0bb92bc200da4acc23948be5c5e33e223cf9c2854c56504234ff", func := "tarnfell/tarnlaw2.CoversMatch", spec := "coversMatch", inPlace := ["internal/bytealg.IndexByteString", "internal/bytealg.IndexString", "math.sqrt"], unfollowed := true, recurses := true, named := ["unicode/utf8.first", "unicode/utf8.acceptRanges", "internal/bytealg.MaxLen"], apart := false, laid := [("unicode/utf8.acceptRanges", laid_unicode_utf8_acceptRanges), ("unicode/utf8.first", laid_unicode_utf8_first)] }
def CoversMatchSaid : Prop := coversMatchRow.holds Tryd.pinned (OpenSpec.ofChange coversMatchSpec)

/-- ITS FALSE NEIGHBOUR: 'it returns false'. Refute it at one input. -/
def coversMatchWrong : ChangeSpec := { name := "coversMatch", fn := fun _ => fun
  | [d1, d2, d3] => { results := [.lit (.bool false)], args := [d1, d2, d3] }
  | _ => none }
def CoversMatchWrongFalsely : Prop := coversMatchRow.holds Tryd.pinned (OpenSpec.ofChange coversMatchWrong)

/-- 'tarnlaw2.FiresGo': WHATEVER THE INPUT: true; the input reads as it did. -/
def firesGoSpec : ChangeSpec := { name := "firesGo", fn := fun _ => fun
  | [d1, d2, d3, d4] => { results := [.lit (.bool true)], args := [d1, d2, d3, d4] }
  | _ => none }
def firesGoRow : OpenClaim := { program := "ytgaonoklbihkjaadoor", sum := "e8c90de1d70e0bb92bc200da4acc23948be5c5e33e223cf9c2854c56504234ff", func := "tarnfell/tarnlaw2.FiresGo", spec := "firesGo", inPlace := ["internal/bytealg.IndexByteString", "internal/bytealg.IndexString"], unfollowed := true, recurses := true, named := ["unicode/utf8.first", "unicode/utf8.acceptRanges", "internal/bytealg.MaxLen"], apart := false, laid := [("unicode/utf8.acceptRanges", laid_unicode_utf8_acceptRanges), ("unicode/utf8.first", laid_unicode_utf8_first)] }
def FiresGoSaid : Prop := firesGoRow.holds Tryd.pinned (OpenSpec.ofChange firesGoSpec)

/-- ITS FALSE NEIGHBOUR: 'it returns false'. Refute it at one input. -/
def firesGoWrong : ChangeSpec := { name := "firesGo", fn := fun _ => fun
  | [d1, d2, d3, d4] => { results := [.lit (.bool false)], args := [d1, d2, d3, d4] }
  | _ => none }
def FiresGoWrongFalsely : Prop := firesGoRow.holds Tryd.pinned (OpenSpec.ofChange firesGoWrong)

/-- 'tarnlaw2.PlantsThin': WHATEVER THE INPUT: true; the input reads as it did. -/
def plantsThinSpec : ChangeSpec := { name := "plantsThin", fn := fun _ => fun
  | [d1, d2] => { results := [.lit (.bool true)], args := [d1, d2] }
  | _ => none }
def plantsThinRow : OpenClaim := { program := "ytgaonoklbihkjaadoor", sum := "e8c90de1d70e0bb92bc200da4acc23948be5c5e33e223cf9c2854c56504234ff", func := "tarnfell/tarnlaw2.PlantsThin", spec := "plantsThin", inPlace := ["internal/bytealg.IndexByteString", "internal/bytealg.IndexString"], unfollowed := true, recurses := true, named := ["unicode/utf8.first", "unicode/utf8.acceptRanges", "internal/bytealg.MaxLen"], apart := false, laid := [("unicode/utf8.acceptRanges", laid_unicode_utf8_acceptRanges), ("unicode/utf8.first", laid_unicode_utf8_first)] }
def PlantsThinSaid : Prop := plantsThinRow.holds Tryd.pinned (OpenSpec.ofChange plantsThinSpec)

/-- ITS FALSE NEIGHBOUR: 'it returns false'. Refute it at one input. -/
def plantsThinWrong : ChangeSpec := { name := "plantsThin", fn := fun _ => fun
  | [d1, d2] => { results := [.lit (.bool false)], args := [d1, d2] }
  | _ => none }
def PlantsThinWrongFalsely : Prop := plantsThinRow.holds Tryd.pinned (OpenSpec.ofChange plantsThinWrong)

/- THE SECOND FORM. 'bulk': how many values and letters a reading holds, each counted each time it is reached (what is shared counts as often as it is met; a slice's spare places count too). A statement '..UptoSaid' is the law's where the arguments, and the package variables that the reading takes, are together of bulk at most 1048576: NARROWER than '..Said'. Prove '..Said' where nothing that the law and all that it calls make is longer than what came in: it says more and counts as full. Else prove '..UptoSaid'. A law counts once. -/
mutual
def uptoBulk {H : Type} : DataW H → Nat
  | .lit (.string bytes) => bytes.length + 1
  | .lit _ => 1
  | .nil => 1
  | .ptr d => uptoBulk d + 1
  | .slice elems spare => uptoBulkAll elems + uptoBulkAll spare + 1
  | .agg parts => uptoBulkAll parts + 1
  | .iface _ d => uptoBulk d + 1
  | .map entries => uptoBulkEntries entries + 1
  | .held _ => 1
def uptoBulkAll {H : Type} : List (DataW H) → Nat
  | [] => 0
  | d :: r => uptoBulk d + uptoBulkAll r
def uptoBulkEntries {H : Type} : List (Lit × DataW H) → Nat
  | [] => 0
  | x :: r => uptoBulkEntry x + uptoBulkEntries r
def uptoBulkEntry {H : Type} : Lit × DataW H → Nat
  | (.string bytes, d) => bytes.length + uptoBulk d + 1
  | (_, d) => uptoBulk d + 1
 end
def uptoSmall : (H : Type) → List (DataW H) → Bool := fun _ ds => decide (uptoBulkAll ds ≤ 1048576)
def OpenSpec.upto (s : _root_.Go.ChangeSpec) : _root_.Go.OpenSpec := { _root_.Go.OpenSpec.ofChange s with cond := some uptoSmall }

/-- 'tarnlaw2.CrowdsMatch', WHERE WHAT IT READS IS OF BULK AT MOST 1048576: true; the input reads as it did. -/
def crowdsMatchUptoRow : OpenClaim := { program := "ytgaonoklbihkjaadoor", sum := "e8c90de1d70e0bb92bc200da4acc23948be5c5e33e223cf9c2854c56504234ff", func := "tarnfell/tarnlaw2.CrowdsMatch", spec := "crowdsMatch", inPlace := ["internal/bytealg.IndexByteString", "internal/bytealg.IndexString", "math.sqrt"], named := ["unicode/utf8.first", "unicode/utf8.acceptRanges", "internal/bytealg.MaxLen"], apart := false, laid := [("unicode/utf8.acceptRanges", laid_unicode_utf8_acceptRanges), ("unicode/utf8.first", laid_unicode_utf8_first)], narrowed := true }
def CrowdsMatchUptoSaid : Prop := crowdsMatchUptoRow.holds Tryd.pinned (OpenSpec.upto crowdsMatchSpec)

/-- 'tarnlaw2.CountsMatch', WHERE WHAT IT READS IS OF BULK AT MOST 1048576: true; the input reads as it did. -/
def countsMatchUptoRow : OpenClaim := { program := "ytgaonoklbihkjaadoor", sum := "e8c90de1d70e0bb92bc200da4acc23948be5c5e33e223cf9c2854c56504234ff", func := "tarnfell/tarnlaw2.CountsMatch", spec := "countsMatch", inPlace := ["internal/bytealg.IndexByteString", "internal/bytealg.IndexString"], named := ["unicode/utf8.first", "unicode/utf8.acceptRanges", "internal/bytealg.MaxLen"], apart := false, laid := [("unicode/utf8.acceptRanges", laid_unicode_utf8_acceptRanges), ("unicode/utf8.first", laid_unicode_utf8_first)], narrowed := true }
def CountsMatchUptoSaid : Prop := countsMatchUptoRow.holds Tryd.pinned (OpenSpec.upto countsMatchSpec)

/-- 'tarnlaw2.CoversMatch', WHERE WHAT IT READS IS OF BULK AT MOST 1048576: true; the input reads as it did. -/
def coversMatchUptoRow : OpenClaim := { program := "ytgaonoklbihkjaadoor", sum := "e8c90de1d70e0bb92bc200da4acc23948be5c5e33e223cf9c2854c56504234ff", func := "tarnfell/tarnlaw2.CoversMatch", spec := "coversMatch", inPlace := ["internal/bytealg.IndexByteString", "internal/bytealg.IndexString", "math.sqrt"], unfollowed := true, recurses := true, named := ["unicode/utf8.first", "unicode/utf8.acceptRanges", "internal/bytealg.MaxLen"], apart := false, laid := [("unicode/utf8.acceptRanges", laid_unicode_utf8_acceptRanges), ("unicode/utf8.first", laid_unicode_utf8_first)], narrowed := true }
def CoversMatchUptoSaid : Prop := coversMatchUptoRow.holds Tryd.pinned (OpenSpec.upto coversMatchSpec)

/-- 'tarnlaw2.FiresGo', WHERE WHAT IT READS IS OF BULK AT MOST 1048576: true; the input reads as it did. -/
def firesGoUptoRow : OpenClaim := { program := "ytgaonoklbihkjaadoor", sum := "e8c90de1d70e0bb92bc200da4acc23948be5c5e33e223cf9c2854c56504234ff", func := "tarnfell/tarnlaw2.FiresGo", spec := "firesGo", inPlace := ["internal/bytealg.IndexByteString", "internal/bytealg.IndexString"], unfollowed := true, recurses := true, named := ["unicode/utf8.first", "unicode/utf8.acceptRanges", "internal/bytealg.MaxLen"], apart := false, laid := [("unicode/utf8.acceptRanges", laid_unicode_utf8_acceptRanges), ("unicode/utf8.first", laid_unicode_utf8_first)], narrowed := true }
def FiresGoUptoSaid : Prop := firesGoUptoRow.holds Tryd.pinned (OpenSpec.upto firesGoSpec)

/-- 'tarnlaw2.PlantsThin', WHERE WHAT IT READS IS OF BULK AT MOST 1048576: true; the input reads as it did. -/
def plantsThinUptoRow : OpenClaim := { program := "ytgaonoklbihkjaadoor", sum := "e8c90de1d70e0bb92bc200da4acc23948be5c5e33e223cf9c2854c56504234ff", func := "tarnfell/tarnlaw2.PlantsThin", spec := "plantsThin", inPlace := ["internal/bytealg.IndexByteString", "internal/bytealg.IndexString"], unfollowed := true, recurses := true, named := ["unicode/utf8.first", "unicode/utf8.acceptRanges", "internal/bytealg.MaxLen"], apart := false, laid := [("unicode/utf8.acceptRanges", laid_unicode_utf8_acceptRanges), ("unicode/utf8.first", laid_unicode_utf8_first)], narrowed := true }
def PlantsThinUptoSaid : Prop := plantsThinUptoRow.holds Tryd.pinned (OpenSpec.upto plantsThinSpec)

end Rows
end Go.Proofs.YtgaonoklbihkjaaDoor
