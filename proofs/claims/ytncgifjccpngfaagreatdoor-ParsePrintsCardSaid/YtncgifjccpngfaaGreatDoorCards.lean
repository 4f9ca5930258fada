/-
  DERIVED. GIVEN WITH THE SEED: THE CARDS: each row of YtncgifjccpngfaaGreatDoorRows.lean that lists a variable, with what it lists TIED to the program's text (the seventh form; the later family's looks); each row that meets fmt, with fmt's text TOLD by the authors' own Lean function (tested against real Go, not proved from fmt's source: count such statements apart). THE CARD IS WHAT COUNTS. Prove the row's statement (the work); the ties are given (YtncgifjccpngfaaGreatDoorTie.lean); close each card by the builder's one call (the guide's Derived/Test/ToyasCard.lean, 'card_holds'). Laid BY PROGRAM, IN A SANDBOX (cutbox-door.mjs). By AI agents, Wed Nov 11 2026. No macro, syntax, notation, axiom, sorry.
-/
import Derived.Test.YtncgifjccpngfaaGreatDoorRows
import GoSem.ClaimSeven
namespace Go.Proofs.YtncgifjccpngfaaGreatDoor
namespace Rows

/-- THE TIED CARD OF 'penumbralaw24.ParseMoved'. -/
def parseMovedCard : Claim7 := { stood := { row := parseMovedRow, standIns := [], harness := (true, "6c78e171e27a196a74f523619e9da934a53ef0cf9e14f459a8695a471ed9f40b"), looks := true }, kinds := [], alts := [], laidByText := true, laidKinds := [.data, .handle, .pinned], laidTests := true, laidLooks := .later }
def ParseMovedCardSaid : Prop := Claim7.holds Tryz.pinned (.plain (OpenSpec.ofChange parseMovedSpec)) parseMovedCard

/-- THE TIED CARD OF 'penumbralaw24.ParseReads'. -/
def parseReadsCard : Claim7 := { stood := { row := parseReadsRow, standIns := [], harness := (true, "6c78e171e27a196a74f523619e9da934a53ef0cf9e14f459a8695a471ed9f40b"), looks := true }, kinds := [], alts := [], laidByText := true, laidKinds := [.data, .handle, .pinned], laidTests := true, laidLooks := .later }
def ParseReadsCardSaid : Prop := Claim7.holds Tryz.pinned (.plain (OpenSpec.ofChange parseReadsSpec)) parseReadsCard

/-- THE TIED CARD OF 'penumbralaw24.ParseBig'. -/
def parseBigCard : Claim7 := { stood := { row := parseBigRow, standIns := [], harness := (true, "6c78e171e27a196a74f523619e9da934a53ef0cf9e14f459a8695a471ed9f40b"), looks := true }, kinds := [], alts := [], laidByText := true, laidKinds := [.data, .handle, .pinned], laidTests := true, laidLooks := .later }
def ParseBigCardSaid : Prop := Claim7.holds Tryz.pinned (.plain (OpenSpec.ofChange parseBigSpec)) parseBigCard

/-- THE TIED CARD OF 'penumbralaw24.ParsePrints'. -/
def parsePrintsCard : Claim7 := { stood := { row := parsePrintsRow, standIns := [], harness := (true, "6c78e171e27a196a74f523619e9da934a53ef0cf9e14f459a8695a471ed9f40b"), looks := true }, kinds := [], alts := [], laidByText := true, laidKinds := [.data, .handle, .pinned], laidTests := true, laidLooks := .later }
def ParsePrintsCardSaid : Prop := Claim7.holds Tryz.pinned (.plain (OpenSpec.ofChange parsePrintsSpec)) parsePrintsCard

/-- THE SECOND FORM's CARD OF 'penumbralaw24.ParseMoved'. -/
def parseMovedUptoCard : Claim7 := { stood := { row := parseMovedUptoRow, standIns := [], harness := (true, "6c78e171e27a196a74f523619e9da934a53ef0cf9e14f459a8695a471ed9f40b"), looks := true }, kinds := [], alts := [], laidByText := true, laidKinds := [.data, .handle, .pinned], laidTests := true, laidLooks := .later }
def ParseMovedUptoCardSaid : Prop := Claim7.holds Tryz.pinned (.plain (OpenSpec.upto parseMovedSpec)) parseMovedUptoCard

/-- THE SECOND FORM's CARD OF 'penumbralaw24.ParseReads'. -/
def parseReadsUptoCard : Claim7 := { stood := { row := parseReadsUptoRow, standIns := [], harness := (true, "6c78e171e27a196a74f523619e9da934a53ef0cf9e14f459a8695a471ed9f40b"), looks := true }, kinds := [], alts := [], laidByText := true, laidKinds := [.data, .handle, .pinned], laidTests := true, laidLooks := .later }
def ParseReadsUptoCardSaid : Prop := Claim7.holds Tryz.pinned (.plain (OpenSpec.upto parseReadsSpec)) parseReadsUptoCard

/-- THE SECOND FORM's CARD OF 'penumbralaw24.ParseBig'. -/
def parseBigUptoCard : Claim7 := { stood := { row := parseBigUptoRow, standIns := [], harness := (true, "6c78e171e27a196a74f523619e9da934a53ef0cf9e14f459a8695a471ed9f40b"), looks := true }, kinds := [], alts := [], laidByText := true, laidKinds := [.data, .handle, .pinned], laidTests := true, laidLooks := .later }
def ParseBigUptoCardSaid : Prop := Claim7.holds Tryz.pinned (.plain (OpenSpec.upto parseBigSpec)) parseBigUptoCard

/-- THE SECOND FORM's CARD OF 'penumbralaw24.ParsePrints'. -/
def parsePrintsUptoCard : Claim7 := { stood := { row := parsePrintsUptoRow, standIns := [], harness := (true, "6c78e171e27a196a74f523619e9da934a53ef0cf9e14f459a8695a471ed9f40b"), looks := true }, kinds := [], alts := [], laidByText := true, laidKinds := [.data, .handle, .pinned], laidTests := true, laidLooks := .later }
def ParsePrintsUptoCardSaid : Prop := Claim7.holds Tryz.pinned (.plain (OpenSpec.upto parsePrintsSpec)) parsePrintsUptoCard
end Rows
end Go.Proofs.YtncgifjccpngfaaGreatDoor
