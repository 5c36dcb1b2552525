/-
  DERIVED. GIVEN WITH THE SEED: THE CARDS: each row of YtjkalnboijkikaaDoorRows.lean that lists a variable, with what it lists TIED to the program's text (the seventh form; the later family's looks); each row that meets fmt, with fmt's text TOLD by the authors' own Lean function (tested against real Go, not proved from fmt's source: count such statements apart). THE CARD IS WHAT COUNTS. Prove the row's statement (the work); the ties are given (YtjkalnboijkikaaDoorTie.lean); close each card by the builder's one call (the guide's Derived/Test/ToyasCard.lean, 'card_holds'). Laid BY PROGRAM, IN A SANDBOX (cutbox-door.mjs). By AI agents, Wed Nov 11 2026. No macro, syntax, notation, axiom, sorry.
-/
import Derived.Test.YtjkalnboijkikaaDoorRows
import GoSem.ClaimSeven
namespace Go.Proofs.YtjkalnboijkikaaDoor
namespace Rows

/-- THE TIED CARD OF 'tarnlaw2.KindsMatch'. -/
def kindsMatchCard : Claim7 := { stood := { row := kindsMatchRow, standIns := [], harness := (true, "6ad05ff2cf147c80ec540ec5b2ee96b4b7079472e3f882c3a43dbe70cc4b1450"), looks := false }, kinds := [], alts := [], laidByText := true, laidKinds := [.data, .pinned], laidTests := true, laidLooks := .later }
def KindsMatchCardSaid : Prop := Claim7.holds Tryd.pinned (.plain (OpenSpec.ofChange kindsMatchSpec)) kindsMatchCard

/-- THE TIED CARD OF 'tarnlaw2.SuitsMatch'. -/
def suitsMatchCard : Claim7 := { stood := { row := suitsMatchRow, standIns := [], harness := (true, "6ad05ff2cf147c80ec540ec5b2ee96b4b7079472e3f882c3a43dbe70cc4b1450"), looks := false }, kinds := [], alts := [], laidByText := true, laidKinds := [.data, .pinned], laidTests := true, laidLooks := .later }
def SuitsMatchCardSaid : Prop := Claim7.holds Tryd.pinned (.plain (OpenSpec.ofChange suitsMatchSpec)) suitsMatchCard

/-- THE TIED CARD OF 'tarnlaw2.GroundsMatch'. -/
def groundsMatchCard : Claim7 := { stood := { row := groundsMatchRow, standIns := [], harness := (true, "6ad05ff2cf147c80ec540ec5b2ee96b4b7079472e3f882c3a43dbe70cc4b1450"), looks := false }, kinds := [], alts := [], laidByText := true, laidKinds := [.data, .pinned], laidTests := true, laidLooks := .later }
def GroundsMatchCardSaid : Prop := Claim7.holds Tryd.pinned (.plain (OpenSpec.ofChange groundsMatchSpec)) groundsMatchCard

/-- THE SECOND FORM's CARD OF 'tarnlaw2.KindsMatch'. -/
def kindsMatchUptoCard : Claim7 := { stood := { row := kindsMatchUptoRow, standIns := [], harness := (true, "6ad05ff2cf147c80ec540ec5b2ee96b4b7079472e3f882c3a43dbe70cc4b1450"), looks := false }, kinds := [], alts := [], laidByText := true, laidKinds := [.data, .pinned], laidTests := true, laidLooks := .later }
def KindsMatchUptoCardSaid : Prop := Claim7.holds Tryd.pinned (.plain (OpenSpec.upto kindsMatchSpec)) kindsMatchUptoCard

/-- THE SECOND FORM's CARD OF 'tarnlaw2.SuitsMatch'. -/
def suitsMatchUptoCard : Claim7 := { stood := { row := suitsMatchUptoRow, standIns := [], harness := (true, "6ad05ff2cf147c80ec540ec5b2ee96b4b7079472e3f882c3a43dbe70cc4b1450"), looks := false }, kinds := [], alts := [], laidByText := true, laidKinds := [.data, .pinned], laidTests := true, laidLooks := .later }
def SuitsMatchUptoCardSaid : Prop := Claim7.holds Tryd.pinned (.plain (OpenSpec.upto suitsMatchSpec)) suitsMatchUptoCard

/-- THE SECOND FORM's CARD OF 'tarnlaw2.GroundsMatch'. -/
def groundsMatchUptoCard : Claim7 := { stood := { row := groundsMatchUptoRow, standIns := [], harness := (true, "6ad05ff2cf147c80ec540ec5b2ee96b4b7079472e3f882c3a43dbe70cc4b1450"), looks := false }, kinds := [], alts := [], laidByText := true, laidKinds := [.data, .pinned], laidTests := true, laidLooks := .later }
def GroundsMatchUptoCardSaid : Prop := Claim7.holds Tryd.pinned (.plain (OpenSpec.upto groundsMatchSpec)) groundsMatchUptoCard
end Rows
end Go.Proofs.YtjkalnboijkikaaDoor
