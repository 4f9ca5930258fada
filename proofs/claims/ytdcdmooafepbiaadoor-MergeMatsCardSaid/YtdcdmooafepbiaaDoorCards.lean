/-
  DERIVED. GIVEN WITH THE SEED: THE CARDS: each row of YtdcdmooafepbiaaDoorRows.lean that lists a variable, with what it lists TIED to the program's text (the seventh form; the later family's looks); each row that meets fmt, with fmt's text TOLD by the authors' own Lean function (tested against real Go, not proved from fmt's source: count such statements apart). THE CARD IS WHAT COUNTS. Prove the row's statement (the work); the ties are given (YtdcdmooafepbiaaDoorTie.lean); close each card by the builder's one call (the guide's Derived/Test/ToyasCard.lean, 'card_holds'). Laid BY PROGRAM, IN A SANDBOX (cutbox-door.mjs). By AI agents, Wed Nov 11 2026. No macro, syntax, notation, axiom, sorry.
-/
import Derived.Test.YtdcdmooafepbiaaDoorRows
import GoSem.ClaimSeven
namespace Go.Proofs.YtdcdmooafepbiaaDoor
namespace Rows

/-- THE TIED CARD OF 'penumbralaw48.MergeJoins'. -/
def mergeJoinsCard : Claim7 := { stood := { row := mergeJoinsRow, standIns := [], harness := (true, "c6dbaf13336c0c053a301cc080dcfe58b1a4af0a619e7f61261385a245c4434d"), looks := true }, kinds := [], alts := [], laidByText := true, laidKinds := [.handle], laidTests := true, laidLooks := .later }
def MergeJoinsCardSaid : Prop := Claim7.holds Tryd.pinned (.plain (OpenSpec.ofChange mergeJoinsSpec)) mergeJoinsCard

/-- THE TIED CARD OF 'penumbralaw48.MergeMats'. -/
def mergeMatsCard : Claim7 := { stood := { row := mergeMatsRow, standIns := [], harness := (true, "c6dbaf13336c0c053a301cc080dcfe58b1a4af0a619e7f61261385a245c4434d"), looks := true }, kinds := [], alts := [], laidByText := true, laidKinds := [.handle], laidTests := true, laidLooks := .later }
def MergeMatsCardSaid : Prop := Claim7.holds Tryd.pinned (.plain (OpenSpec.ofChange mergeMatsSpec)) mergeMatsCard

/-- THE TIED CARD OF 'penumbralaw48.MergeDims'. -/
def mergeDimsCard : Claim7 := { stood := { row := mergeDimsRow, standIns := [], harness := (true, "c6dbaf13336c0c053a301cc080dcfe58b1a4af0a619e7f61261385a245c4434d"), looks := true }, kinds := [], alts := [], laidByText := true, laidKinds := [.handle], laidTests := true, laidLooks := .later }
def MergeDimsCardSaid : Prop := Claim7.holds Tryd.pinned (.plain (OpenSpec.ofChange mergeDimsSpec)) mergeDimsCard

/-- THE TIED CARD OF 'penumbralaw48.MergeWithout'. -/
def mergeWithoutCard : Claim7 := { stood := { row := mergeWithoutRow, standIns := [], harness := (true, "c6dbaf13336c0c053a301cc080dcfe58b1a4af0a619e7f61261385a245c4434d"), looks := true }, kinds := [], alts := [], laidByText := true, laidKinds := [.handle], laidTests := true, laidLooks := .later }
def MergeWithoutCardSaid : Prop := Claim7.holds Tryd.pinned (.plain (OpenSpec.ofChange mergeWithoutSpec)) mergeWithoutCard

/-- THE SECOND FORM's CARD OF 'penumbralaw48.MergeJoins'. -/
def mergeJoinsUptoCard : Claim7 := { stood := { row := mergeJoinsUptoRow, standIns := [], harness := (true, "c6dbaf13336c0c053a301cc080dcfe58b1a4af0a619e7f61261385a245c4434d"), looks := true }, kinds := [], alts := [], laidByText := true, laidKinds := [.handle], laidTests := true, laidLooks := .later }
def MergeJoinsUptoCardSaid : Prop := Claim7.holds Tryd.pinned (.plain (OpenSpec.upto mergeJoinsSpec)) mergeJoinsUptoCard

/-- THE SECOND FORM's CARD OF 'penumbralaw48.MergeMats'. -/
def mergeMatsUptoCard : Claim7 := { stood := { row := mergeMatsUptoRow, standIns := [], harness := (true, "c6dbaf13336c0c053a301cc080dcfe58b1a4af0a619e7f61261385a245c4434d"), looks := true }, kinds := [], alts := [], laidByText := true, laidKinds := [.handle], laidTests := true, laidLooks := .later }
def MergeMatsUptoCardSaid : Prop := Claim7.holds Tryd.pinned (.plain (OpenSpec.upto mergeMatsSpec)) mergeMatsUptoCard

/-- THE SECOND FORM's CARD OF 'penumbralaw48.MergeDims'. -/
def mergeDimsUptoCard : Claim7 := { stood := { row := mergeDimsUptoRow, standIns := [], harness := (true, "c6dbaf13336c0c053a301cc080dcfe58b1a4af0a619e7f61261385a245c4434d"), looks := true }, kinds := [], alts := [], laidByText := true, laidKinds := [.handle], laidTests := true, laidLooks := .later }
def MergeDimsUptoCardSaid : Prop := Claim7.holds Tryd.pinned (.plain (OpenSpec.upto mergeDimsSpec)) mergeDimsUptoCard

/-- THE SECOND FORM's CARD OF 'penumbralaw48.MergeWithout'. -/
def mergeWithoutUptoCard : Claim7 := { stood := { row := mergeWithoutUptoRow, standIns := [], harness := (true, "c6dbaf13336c0c053a301cc080dcfe58b1a4af0a619e7f61261385a245c4434d"), looks := true }, kinds := [], alts := [], laidByText := true, laidKinds := [.handle], laidTests := true, laidLooks := .later }
def MergeWithoutUptoCardSaid : Prop := Claim7.holds Tryd.pinned (.plain (OpenSpec.upto mergeWithoutSpec)) mergeWithoutUptoCard
end Rows
end Go.Proofs.YtdcdmooafepbiaaDoor
