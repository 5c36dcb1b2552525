/-
  No cell of these rows narrows 'for every input' (looked for: loops, veiled, ifaces, maps, wideKeys, modest, calm, conditions, laid).
  DERIVED. THE GIVEN ROWS OF THIS SEAT. 3 by the template 'for every input the law returns true; each argument reads behind the call as it read before'; 0 by the template 'total and deterministic' (their statements: YtepgfplbkmhgbaaTotals.lean).
  GIVEN WITH THE SEED: the statements are not yours to turn. If you find one false, say at which input.
  Laid BY PROGRAM, IN A SANDBOX (cutbox-rows.mjs): the forced cells as the released guide's own fill.sh prints them over the translation f6e65ac2e62cd417… (all of the seat's roots in one cut). By AI agents, Wed Nov 11 2026. No macro, syntax, notation, axiom, sorry.
-/
import Derived.Test.YtepgfplbkmhgbaaChecked
import GoSem.Claim
import GoSem.ClaimJoined
import GoSem.ClaimMapViews
import Derived.JoinedTies
import Derived.KernelRfl
namespace Go.Proofs.Ytepgfplbkmhgbaa
/- THE CELL 'sum', in the pinned program and in every row, IS THE sha256 OF THE DUMP (.gsa) THAT YtepgfplbkmhgbaaProg.lean LOADS. Nothing in Lean hashes anything: it is a label: what it is worth is what the hold of that sum in a sandbox is worth. -/
noncomputable def Try.pinned : Pinned := { name := "ytepgfplbkmhgbaa", sum := "f6e65ac2e62cd41772498bc1828e915f0334119ed5c1a2d26f120932fa0926b7", checked := Try.checked }
namespace Rows
def none {H : Type} : Left H := { results := [], args := [] }

/-- 'tarntop.TopDrains': WHATEVER THE INPUT: true; the input reads as it did. -/
def topDrainsSpec : ChangeSpec := { name := "topDrains", fn := fun _ => fun
  | [d1, d2] => { results := [.lit (.bool true)], args := [d1, d2] }
  | _ => none }
def topDrainsRow : OpenClaim := { program := "ytepgfplbkmhgbaa", sum := "f6e65ac2e62cd41772498bc1828e915f0334119ed5c1a2d26f120932fa0926b7", func := "tarnfell/tarntop.TopDrains", spec := "topDrains", unfollowed := true, recurses := true, apart := false }
def TopDrainsSaid : Prop := topDrainsRow.holds Try.pinned (OpenSpec.ofChange topDrainsSpec)

/-- ITS FALSE NEIGHBOUR: 'it returns false'. Refute it at one input. -/
def topDrainsWrong : ChangeSpec := { name := "topDrains", fn := fun _ => fun
  | [d1, d2] => { results := [.lit (.bool false)], args := [d1, d2] }
  | _ => none }
def TopDrainsWrongFalsely : Prop := topDrainsRow.holds Try.pinned (OpenSpec.ofChange topDrainsWrong)

/-- 'tarntop.TopFlows': WHATEVER THE INPUT: true; the input reads as it did. -/
def topFlowsSpec : ChangeSpec := { name := "topFlows", fn := fun _ => fun
  | [d1, d2, d3] => { results := [.lit (.bool true)], args := [d1, d2, d3] }
  | _ => none }
def topFlowsRow : OpenClaim := { program := "ytepgfplbkmhgbaa", sum := "f6e65ac2e62cd41772498bc1828e915f0334119ed5c1a2d26f120932fa0926b7", func := "tarnfell/tarntop.TopFlows", spec := "topFlows", unfollowed := true, recurses := true, apart := false }
def TopFlowsSaid : Prop := topFlowsRow.holds Try.pinned (OpenSpec.ofChange topFlowsSpec)

/-- ITS FALSE NEIGHBOUR: 'it returns false'. Refute it at one input. -/
def topFlowsWrong : ChangeSpec := { name := "topFlows", fn := fun _ => fun
  | [d1, d2, d3] => { results := [.lit (.bool false)], args := [d1, d2, d3] }
  | _ => none }
def TopFlowsWrongFalsely : Prop := topFlowsRow.holds Try.pinned (OpenSpec.ofChange topFlowsWrong)

/-- 'tarntop.TopCarves': WHATEVER THE INPUT: true; the input reads as it did. -/
def topCarvesSpec : ChangeSpec := { name := "topCarves", fn := fun _ => fun
  | [d1, d2] => { results := [.lit (.bool true)], args := [d1, d2] }
  | _ => none }
def topCarvesRow : OpenClaim := { program := "ytepgfplbkmhgbaa", sum := "f6e65ac2e62cd41772498bc1828e915f0334119ed5c1a2d26f120932fa0926b7", func := "tarnfell/tarntop.TopCarves", spec := "topCarves", inPlace := ["math.sqrt"], unfollowed := true, recurses := true, apart := false }
def TopCarvesSaid : Prop := topCarvesRow.holds Try.pinned (OpenSpec.ofChange topCarvesSpec)

/-- ITS FALSE NEIGHBOUR: 'it returns false'. Refute it at one input. -/
def topCarvesWrong : ChangeSpec := { name := "topCarves", fn := fun _ => fun
  | [d1, d2] => { results := [.lit (.bool false)], args := [d1, d2] }
  | _ => none }
def TopCarvesWrongFalsely : Prop := topCarvesRow.holds Try.pinned (OpenSpec.ofChange topCarvesWrong)

/- THE SECOND FORM. 'bulk': how many values and letters a reading holds, each counted each time it is reached (what is shared counts as often as it is met; a slice's spare places count too). A statement '..UptoSaid' is the law's where the arguments, and the package variables that the reading takes, are together of bulk at most 1048576: NARROWER than '..Said'. Prove '..Said' where nothing that the law and all that it calls make is longer than what came in: it says more and counts as full. Else prove '..UptoSaid'. A law counts once. -/
mutual
def uptoBulk {H : Type} : DataW H → Nat
  | .lit (.string bytes) => bytes.length + 1
  | .lit _ => 1
  | .nil => 1
  | .ptr d => uptoBulk d + 1
  | .slice elems spare => uptoBulkAll elems + uptoBulkAll spare + 1
  | .agg parts => uptoBulkAll parts + 1
  | .iface _ d => uptoBulk d + 1
  | .map entries => uptoBulkEntries entries + 1
  | .held _ => 1
def uptoBulkAll {H : Type} : List (DataW H) → Nat
  | [] => 0
  | d :: r => uptoBulk d + uptoBulkAll r
def uptoBulkEntries {H : Type} : List (Lit × DataW H) → Nat
  | [] => 0
  | x :: r => uptoBulkEntry x + uptoBulkEntries r
def uptoBulkEntry {H : Type} : Lit × DataW H → Nat
  | (.string bytes, d) => bytes.length + uptoBulk d + 1
  | (_, d) => uptoBulk d + 1
 end
def uptoSmall : (H : Type) → List (DataW H) → Bool := fun _ ds => decide (uptoBulkAll ds ≤ 1048576)
def OpenSpec.upto (s : _root_.Go.ChangeSpec) : _root_.Go.OpenSpec := { _root_.Go.OpenSpec.ofChange s with cond := some uptoSmall }

/-- 'tarntop.TopDrains', WHERE WHAT IT READS IS OF BULK AT MOST 1048576: true; the input reads as it did. -/
def topDrainsUptoRow : OpenClaim := { program := "ytepgfplbkmhgbaa", sum := "f6e65ac2e62cd41772498bc1828e915f0334119ed5c1a2d26f120932fa0926b7", func := "tarnfell/tarntop.TopDrains", spec := "topDrains", unfollowed := true, recurses := true, apart := false, narrowed := true }
def TopDrainsUptoSaid : Prop := topDrainsUptoRow.holds Try.pinned (OpenSpec.upto topDrainsSpec)

/-- 'tarntop.TopFlows', WHERE WHAT IT READS IS OF BULK AT MOST 1048576: true; the input reads as it did. -/
def topFlowsUptoRow : OpenClaim := { program := "ytepgfplbkmhgbaa", sum := "f6e65ac2e62cd41772498bc1828e915f0334119ed5c1a2d26f120932fa0926b7", func := "tarnfell/tarntop.TopFlows", spec := "topFlows", unfollowed := true, recurses := true, apart := false, narrowed := true }
def TopFlowsUptoSaid : Prop := topFlowsUptoRow.holds Try.pinned (OpenSpec.upto topFlowsSpec)

/-- 'tarntop.TopCarves', WHERE WHAT IT READS IS OF BULK AT MOST 1048576: true; the input reads as it did. -/
def topCarvesUptoRow : OpenClaim := { program := "ytepgfplbkmhgbaa", sum := "f6e65ac2e62cd41772498bc1828e915f0334119ed5c1a2d26f120932fa0926b7", func := "tarnfell/tarntop.TopCarves", spec := "topCarves", inPlace := ["math.sqrt"], unfollowed := true, recurses := true, apart := false, narrowed := true }
def TopCarvesUptoSaid : Prop := topCarvesUptoRow.holds Try.pinned (OpenSpec.upto topCarvesSpec)

end Rows
end Go.Proofs.Ytepgfplbkmhgbaa
