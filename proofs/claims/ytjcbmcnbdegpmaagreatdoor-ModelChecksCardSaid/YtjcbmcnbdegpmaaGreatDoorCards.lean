/-
  DERIVED. GIVEN WITH THE SEED: THE CARDS: each row of YtjcbmcnbdegpmaaGreatDoorRows.lean that lists a variable, with what it lists TIED to the program's text (the seventh form; the later family's looks); each row that meets fmt, with fmt's text TOLD by the authors' own Lean function (tested against real Go, not proved from fmt's source: count such statements apart). THE CARD IS WHAT COUNTS. Prove the row's statement (the work); the ties are given (YtjcbmcnbdegpmaaGreatDoorTie.lean); close each card by the builder's one call (the guide's Derived/Test/ToyasCard.lean, 'card_holds'). Laid BY PROGRAM, IN A SANDBOX (cutbox-door.mjs). By AI agents, Wed Nov 11 2026. No macro, syntax, notation, axiom, sorry.
-/
import Derived.Test.YtjcbmcnbdegpmaaGreatDoorRows
import GoSem.ClaimSeven
namespace Go.Proofs.YtjcbmcnbdegpmaaGreatDoor
namespace Rows

/-- THE TIED CARD OF 'motleylaw03.ModelBack'. -/
def modelBackCard : Claim7 := { stood := { row := modelBackRow, standIns := [], harness := (true, "0b2b96b685aa0d83598935fcb732b0c0ac76a777cf5e111c7f9f74de2d8225f0"), looks := true }, kinds := [], alts := [], laidByText := true, laidKinds := [.data, .data, .data, .data, .sentinel, .sentinel, .pinned], laidTests := true, laidLooks := .later }
def ModelBackCardSaid : Prop := Claim7.holds Tryz.pinned (.plain (OpenSpec.ofChange modelBackSpec)) modelBackCard

/-- THE TIED CARD OF 'motleylaw03.ModelMinimal'. -/
def modelMinimalCard : Claim7 := { stood := { row := modelMinimalRow, standIns := [], harness := (true, "0b2b96b685aa0d83598935fcb732b0c0ac76a777cf5e111c7f9f74de2d8225f0"), looks := true }, kinds := [], alts := [], laidByText := true, laidKinds := [.data, .data, .data, .data, .sentinel, .sentinel, .pinned], laidTests := true, laidLooks := .later }
def ModelMinimalCardSaid : Prop := Claim7.holds Tryz.pinned (.plain (OpenSpec.ofChange modelMinimalSpec)) modelMinimalCard

/-- THE TIED CARD OF 'motleylaw03.ModelSpared'. -/
def modelSparedCard : Claim7 := { stood := { row := modelSparedRow, standIns := [], harness := (true, "0b2b96b685aa0d83598935fcb732b0c0ac76a777cf5e111c7f9f74de2d8225f0"), looks := true }, kinds := [], alts := [], laidByText := true, laidKinds := [.data, .data, .data, .data, .sentinel, .sentinel, .pinned], laidTests := true, laidLooks := .later }
def ModelSparedCardSaid : Prop := Claim7.holds Tryz.pinned (.plain (OpenSpec.ofChange modelSparedSpec)) modelSparedCard

/-- THE TIED CARD OF 'motleylaw03.ModelChecks'. -/
def modelChecksCard : Claim7 := { stood := { row := modelChecksRow, standIns := [], harness := (true, "0b2b96b685aa0d83598935fcb732b0c0ac76a777cf5e111c7f9f74de2d8225f0"), looks := true }, kinds := [], alts := [], laidByText := true, laidKinds := [.data, .data, .data, .data, .sentinel, .sentinel, .pinned], laidTests := true, laidLooks := .later }
def ModelChecksCardSaid : Prop := Claim7.holds Tryz.pinned (.plain (OpenSpec.ofChange modelChecksSpec)) modelChecksCard

/-- THE TIED CARD OF 'motleylaw03.ModelPrints'. -/
def modelPrintsCard : Claim7 := { stood := { row := modelPrintsRow, standIns := [], harness := (true, "0b2b96b685aa0d83598935fcb732b0c0ac76a777cf5e111c7f9f74de2d8225f0"), looks := true }, kinds := [], alts := [], laidByText := true, laidKinds := [.data, .data, .data, .data, .sentinel, .sentinel, .pinned], laidTests := true, laidLooks := .later }
def ModelPrintsCardSaid : Prop := Claim7.holds Tryz.pinned (.plain (OpenSpec.ofChange modelPrintsSpec)) modelPrintsCard

/-- THE SECOND FORM's CARD OF 'motleylaw03.ModelBack'. -/
def modelBackUptoCard : Claim7 := { stood := { row := modelBackUptoRow, standIns := [], harness := (true, "0b2b96b685aa0d83598935fcb732b0c0ac76a777cf5e111c7f9f74de2d8225f0"), looks := true }, kinds := [], alts := [], laidByText := true, laidKinds := [.data, .data, .data, .data, .sentinel, .sentinel, .pinned], laidTests := true, laidLooks := .later }
def ModelBackUptoCardSaid : Prop := Claim7.holds Tryz.pinned (.plain (OpenSpec.upto modelBackSpec)) modelBackUptoCard

/-- THE SECOND FORM's CARD OF 'motleylaw03.ModelMinimal'. -/
def modelMinimalUptoCard : Claim7 := { stood := { row := modelMinimalUptoRow, standIns := [], harness := (true, "0b2b96b685aa0d83598935fcb732b0c0ac76a777cf5e111c7f9f74de2d8225f0"), looks := true }, kinds := [], alts := [], laidByText := true, laidKinds := [.data, .data, .data, .data, .sentinel, .sentinel, .pinned], laidTests := true, laidLooks := .later }
def ModelMinimalUptoCardSaid : Prop := Claim7.holds Tryz.pinned (.plain (OpenSpec.upto modelMinimalSpec)) modelMinimalUptoCard

/-- THE SECOND FORM's CARD OF 'motleylaw03.ModelSpared'. -/
def modelSparedUptoCard : Claim7 := { stood := { row := modelSparedUptoRow, standIns := [], harness := (true, "0b2b96b685aa0d83598935fcb732b0c0ac76a777cf5e111c7f9f74de2d8225f0"), looks := true }, kinds := [], alts := [], laidByText := true, laidKinds := [.data, .data, .data, .data, .sentinel, .sentinel, .pinned], laidTests := true, laidLooks := .later }
def ModelSparedUptoCardSaid : Prop := Claim7.holds Tryz.pinned (.plain (OpenSpec.upto modelSparedSpec)) modelSparedUptoCard

/-- THE SECOND FORM's CARD OF 'motleylaw03.ModelChecks'. -/
def modelChecksUptoCard : Claim7 := { stood := { row := modelChecksUptoRow, standIns := [], harness := (true, "0b2b96b685aa0d83598935fcb732b0c0ac76a777cf5e111c7f9f74de2d8225f0"), looks := true }, kinds := [], alts := [], laidByText := true, laidKinds := [.data, .data, .data, .data, .sentinel, .sentinel, .pinned], laidTests := true, laidLooks := .later }
def ModelChecksUptoCardSaid : Prop := Claim7.holds Tryz.pinned (.plain (OpenSpec.upto modelChecksSpec)) modelChecksUptoCard

/-- THE SECOND FORM's CARD OF 'motleylaw03.ModelPrints'. -/
def modelPrintsUptoCard : Claim7 := { stood := { row := modelPrintsUptoRow, standIns := [], harness := (true, "0b2b96b685aa0d83598935fcb732b0c0ac76a777cf5e111c7f9f74de2d8225f0"), looks := true }, kinds := [], alts := [], laidByText := true, laidKinds := [.data, .data, .data, .data, .sentinel, .sentinel, .pinned], laidTests := true, laidLooks := .later }
def ModelPrintsUptoCardSaid : Prop := Claim7.holds Tryz.pinned (.plain (OpenSpec.upto modelPrintsSpec)) modelPrintsUptoCard
end Rows
end Go.Proofs.YtjcbmcnbdegpmaaGreatDoor
