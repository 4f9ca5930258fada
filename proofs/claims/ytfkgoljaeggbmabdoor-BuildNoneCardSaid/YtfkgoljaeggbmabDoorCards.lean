/-
  DERIVED. GIVEN WITH THE SEED: THE CARDS: each row of YtfkgoljaeggbmabDoorRows.lean that lists a variable, with what it lists TIED to the program's text (the seventh form; the later family's looks); each row that meets fmt, with fmt's text TOLD by the authors' own Lean function (tested against real Go, not proved from fmt's source: count such statements apart). THE CARD IS WHAT COUNTS. Prove the row's statement (the work); the ties are given (YtfkgoljaeggbmabDoorTie.lean); close each card by the builder's one call (the guide's Derived/Test/ToyasCard.lean, 'card_holds'). Laid BY PROGRAM, IN A SANDBOX (cutbox-door.mjs). By AI agents, Wed Nov 11 2026. No macro, syntax, notation, axiom, sorry.
-/
import Derived.Test.YtfkgoljaeggbmabDoorRows
import GoSem.ClaimSeven
namespace Go.Proofs.YtfkgoljaeggbmabDoor
namespace Rows

/-- THE TIED CARD OF 'penumbralaw01.FaultFinds'. -/
def faultFindsCard : Claim7 := { stood := { row := faultFindsRow, standIns := [], harness := (true, "d844361a5e218dc9ec4ad5c15381044ba0dbd551b99cc61eb032d968dd7b3b05"), looks := true }, kinds := [], alts := [], laidByText := true, laidKinds := [.handle], laidTests := true, laidLooks := .later }
def FaultFindsCardSaid : Prop := Claim7.holds Tryd.pinned (.plain (OpenSpec.ofChange faultFindsSpec)) faultFindsCard

/-- THE TIED CARD OF 'penumbralaw01.FaultChains'. -/
def faultChainsCard : Claim7 := { stood := { row := faultChainsRow, standIns := [], harness := (true, "d844361a5e218dc9ec4ad5c15381044ba0dbd551b99cc61eb032d968dd7b3b05"), looks := true }, kinds := [], alts := [], laidByText := true, laidKinds := [.handle], laidTests := true, laidLooks := .later }
def FaultChainsCardSaid : Prop := Claim7.holds Tryd.pinned (.plain (OpenSpec.ofChange faultChainsSpec)) faultChainsCard

/-- THE TIED CARD OF 'penumbralaw01.FaultPlain'. -/
def faultPlainCard : Claim7 := { stood := { row := faultPlainRow, standIns := [], harness := (true, "d844361a5e218dc9ec4ad5c15381044ba0dbd551b99cc61eb032d968dd7b3b05"), looks := true }, kinds := [], alts := [], laidByText := true, laidKinds := [.handle], laidTests := true, laidLooks := .later }
def FaultPlainCardSaid : Prop := Claim7.holds Tryd.pinned (.plain (OpenSpec.ofChange faultPlainSpec)) faultPlainCard

/-- THE TIED CARD OF 'penumbralaw22.SceneChecks'. -/
def sceneChecksCard : Claim7 := { stood := { row := sceneChecksRow, standIns := [], harness := (true, "d844361a5e218dc9ec4ad5c15381044ba0dbd551b99cc61eb032d968dd7b3b05"), looks := true }, kinds := [], alts := [], laidByText := true, laidKinds := [.handle], laidTests := true, laidLooks := .later }
def SceneChecksCardSaid : Prop := Claim7.holds Tryd.pinned (.plain (OpenSpec.ofChange sceneChecksSpec)) sceneChecksCard

/-- THE TIED CARD OF 'penumbralaw47.BuildNone'. -/
def buildNoneCard : Claim7 := { stood := { row := buildNoneRow, standIns := [], harness := (true, "d844361a5e218dc9ec4ad5c15381044ba0dbd551b99cc61eb032d968dd7b3b05"), looks := true }, kinds := [], alts := [], laidByText := true, laidKinds := [.handle], laidTests := true, laidLooks := .later }
def BuildNoneCardSaid : Prop := Claim7.holds Tryd.pinned (.plain (OpenSpec.ofChange buildNoneSpec)) buildNoneCard

/-- THE SECOND FORM's CARD OF 'penumbralaw01.FaultFinds'. -/
def faultFindsUptoCard : Claim7 := { stood := { row := faultFindsUptoRow, standIns := [], harness := (true, "d844361a5e218dc9ec4ad5c15381044ba0dbd551b99cc61eb032d968dd7b3b05"), looks := true }, kinds := [], alts := [], laidByText := true, laidKinds := [.handle], laidTests := true, laidLooks := .later }
def FaultFindsUptoCardSaid : Prop := Claim7.holds Tryd.pinned (.plain (OpenSpec.upto faultFindsSpec)) faultFindsUptoCard

/-- THE SECOND FORM's CARD OF 'penumbralaw01.FaultChains'. -/
def faultChainsUptoCard : Claim7 := { stood := { row := faultChainsUptoRow, standIns := [], harness := (true, "d844361a5e218dc9ec4ad5c15381044ba0dbd551b99cc61eb032d968dd7b3b05"), looks := true }, kinds := [], alts := [], laidByText := true, laidKinds := [.handle], laidTests := true, laidLooks := .later }
def FaultChainsUptoCardSaid : Prop := Claim7.holds Tryd.pinned (.plain (OpenSpec.upto faultChainsSpec)) faultChainsUptoCard

/-- THE SECOND FORM's CARD OF 'penumbralaw01.FaultPlain'. -/
def faultPlainUptoCard : Claim7 := { stood := { row := faultPlainUptoRow, standIns := [], harness := (true, "d844361a5e218dc9ec4ad5c15381044ba0dbd551b99cc61eb032d968dd7b3b05"), looks := true }, kinds := [], alts := [], laidByText := true, laidKinds := [.handle], laidTests := true, laidLooks := .later }
def FaultPlainUptoCardSaid : Prop := Claim7.holds Tryd.pinned (.plain (OpenSpec.upto faultPlainSpec)) faultPlainUptoCard

/-- THE SECOND FORM's CARD OF 'penumbralaw22.SceneChecks'. -/
def sceneChecksUptoCard : Claim7 := { stood := { row := sceneChecksUptoRow, standIns := [], harness := (true, "d844361a5e218dc9ec4ad5c15381044ba0dbd551b99cc61eb032d968dd7b3b05"), looks := true }, kinds := [], alts := [], laidByText := true, laidKinds := [.handle], laidTests := true, laidLooks := .later }
def SceneChecksUptoCardSaid : Prop := Claim7.holds Tryd.pinned (.plain (OpenSpec.upto sceneChecksSpec)) sceneChecksUptoCard

/-- THE SECOND FORM's CARD OF 'penumbralaw47.BuildNone'. -/
def buildNoneUptoCard : Claim7 := { stood := { row := buildNoneUptoRow, standIns := [], harness := (true, "d844361a5e218dc9ec4ad5c15381044ba0dbd551b99cc61eb032d968dd7b3b05"), looks := true }, kinds := [], alts := [], laidByText := true, laidKinds := [.handle], laidTests := true, laidLooks := .later }
def BuildNoneUptoCardSaid : Prop := Claim7.holds Tryd.pinned (.plain (OpenSpec.upto buildNoneSpec)) buildNoneUptoCard
end Rows
end Go.Proofs.YtfkgoljaeggbmabDoor
