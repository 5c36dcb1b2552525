/-
  DERIVED. GIVEN WITH THE SEED: THE CARDS: each row of YtgaonoklbihkjaaDoorRows.lean that lists a variable, with what it lists TIED to the program's text (the seventh form; the later family's looks); each row that meets fmt, with fmt's text TOLD by the authors' own Lean function (tested against real Go, not proved from fmt's source: count such statements apart). THE CARD IS WHAT COUNTS. Prove the row's statement (the work); the ties are given (YtgaonoklbihkjaaDoorTie.lean); close each card by the builder's one call (the guide's Derived/Test/ToyasCard.lean, 'card_holds'). Laid BY PROGRAM, IN A SANDBOX (cutbox-door.mjs). By AI agents, Wed Nov 11 2026. No macro, syntax, notation, axiom, sorry.
-/
import Derived.Test.YtgaonoklbihkjaaDoorRows
import GoSem.ClaimSeven
namespace Go.Proofs.YtgaonoklbihkjaaDoor
namespace Rows

/-- THE TIED CARD OF 'tarnlaw2.CrowdsMatch'. -/
def crowdsMatchCard : Claim7 := { stood := { row := crowdsMatchRow, standIns := [], harness := (true, "1a70f3ab7b235ed31e98457aec3c50d5ad54e4c0426dd986fcf2a315b8ec8953"), looks := false }, kinds := [], alts := [], laidByText := true, laidKinds := [.data, .pinned], laidTests := true, laidLooks := .later }
def CrowdsMatchCardSaid : Prop := Claim7.holds Tryd.pinned (.plain (OpenSpec.ofChange crowdsMatchSpec)) crowdsMatchCard

/-- THE TIED CARD OF 'tarnlaw2.CountsMatch'. -/
def countsMatchCard : Claim7 := { stood := { row := countsMatchRow, standIns := [], harness := (true, "1a70f3ab7b235ed31e98457aec3c50d5ad54e4c0426dd986fcf2a315b8ec8953"), looks := false }, kinds := [], alts := [], laidByText := true, laidKinds := [.data, .pinned], laidTests := true, laidLooks := .later }
def CountsMatchCardSaid : Prop := Claim7.holds Tryd.pinned (.plain (OpenSpec.ofChange countsMatchSpec)) countsMatchCard

/-- THE TIED CARD OF 'tarnlaw2.CoversMatch'. -/
def coversMatchCard : Claim7 := { stood := { row := coversMatchRow, standIns := [], harness := (true, "1a70f3ab7b235ed31e98457aec3c50d5ad54e4c0426dd986fcf2a315b8ec8953"), looks := false }, kinds := [], alts := [], laidByText := true, laidKinds := [.data, .pinned], laidTests := true, laidLooks := .later }
def CoversMatchCardSaid : Prop := Claim7.holds Tryd.pinned (.plain (OpenSpec.ofChange coversMatchSpec)) coversMatchCard

/-- THE TIED CARD OF 'tarnlaw2.FiresGo'. -/
def firesGoCard : Claim7 := { stood := { row := firesGoRow, standIns := [], harness := (true, "1a70f3ab7b235ed31e98457aec3c50d5ad54e4c0426dd986fcf2a315b8ec8953"), looks := false }, kinds := [], alts := [], laidByText := true, laidKinds := [.data, .pinned], laidTests := true, laidLooks := .later }
def FiresGoCardSaid : Prop := Claim7.holds Tryd.pinned (.plain (OpenSpec.ofChange firesGoSpec)) firesGoCard

/-- THE TIED CARD OF 'tarnlaw2.PlantsThin'. -/
def plantsThinCard : Claim7 := { stood := { row := plantsThinRow, standIns := [], harness := (true, "1a70f3ab7b235ed31e98457aec3c50d5ad54e4c0426dd986fcf2a315b8ec8953"), looks := false }, kinds := [], alts := [], laidByText := true, laidKinds := [.data, .pinned], laidTests := true, laidLooks := .later }
def PlantsThinCardSaid : Prop := Claim7.holds Tryd.pinned (.plain (OpenSpec.ofChange plantsThinSpec)) plantsThinCard

/-- THE SECOND FORM's CARD OF 'tarnlaw2.CrowdsMatch'. -/
def crowdsMatchUptoCard : Claim7 := { stood := { row := crowdsMatchUptoRow, standIns := [], harness := (true, "1a70f3ab7b235ed31e98457aec3c50d5ad54e4c0426dd986fcf2a315b8ec8953"), looks := false }, kinds := [], alts := [], laidByText := true, laidKinds := [.data, .pinned], laidTests := true, laidLooks := .later }
def CrowdsMatchUptoCardSaid : Prop := Claim7.holds Tryd.pinned (.plain (OpenSpec.upto crowdsMatchSpec)) crowdsMatchUptoCard

/-- THE SECOND FORM's CARD OF 'tarnlaw2.CountsMatch'. -/
def countsMatchUptoCard : Claim7 := { stood := { row := countsMatchUptoRow, standIns := [], harness := (true, "1a70f3ab7b235ed31e98457aec3c50d5ad54e4c0426dd986fcf2a315b8ec8953"), looks := false }, kinds := [], alts := [], laidByText := true, laidKinds := [.data, .pinned], laidTests := true, laidLooks := .later }
def CountsMatchUptoCardSaid : Prop := Claim7.holds Tryd.pinned (.plain (OpenSpec.upto countsMatchSpec)) countsMatchUptoCard

/-- THE SECOND FORM's CARD OF 'tarnlaw2.CoversMatch'. -/
def coversMatchUptoCard : Claim7 := { stood := { row := coversMatchUptoRow, standIns := [], harness := (true, "1a70f3ab7b235ed31e98457aec3c50d5ad54e4c0426dd986fcf2a315b8ec8953"), looks := false }, kinds := [], alts := [], laidByText := true, laidKinds := [.data, .pinned], laidTests := true, laidLooks := .later }
def CoversMatchUptoCardSaid : Prop := Claim7.holds Tryd.pinned (.plain (OpenSpec.upto coversMatchSpec)) coversMatchUptoCard

/-- THE SECOND FORM's CARD OF 'tarnlaw2.FiresGo'. -/
def firesGoUptoCard : Claim7 := { stood := { row := firesGoUptoRow, standIns := [], harness := (true, "1a70f3ab7b235ed31e98457aec3c50d5ad54e4c0426dd986fcf2a315b8ec8953"), looks := false }, kinds := [], alts := [], laidByText := true, laidKinds := [.data, .pinned], laidTests := true, laidLooks := .later }
def FiresGoUptoCardSaid : Prop := Claim7.holds Tryd.pinned (.plain (OpenSpec.upto firesGoSpec)) firesGoUptoCard

/-- THE SECOND FORM's CARD OF 'tarnlaw2.PlantsThin'. -/
def plantsThinUptoCard : Claim7 := { stood := { row := plantsThinUptoRow, standIns := [], harness := (true, "1a70f3ab7b235ed31e98457aec3c50d5ad54e4c0426dd986fcf2a315b8ec8953"), looks := false }, kinds := [], alts := [], laidByText := true, laidKinds := [.data, .pinned], laidTests := true, laidLooks := .later }
def PlantsThinUptoCardSaid : Prop := Claim7.holds Tryd.pinned (.plain (OpenSpec.upto plantsThinSpec)) plantsThinUptoCard
end Rows
end Go.Proofs.YtgaonoklbihkjaaDoor
