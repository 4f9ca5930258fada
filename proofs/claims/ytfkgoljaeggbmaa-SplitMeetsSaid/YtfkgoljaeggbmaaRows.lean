/-
  No cell of these rows narrows 'for every input' (looked for: loops, veiled, ifaces, maps, wideKeys, modest, calm, conditions, laid).
  DERIVED. THE GIVEN ROWS OF THIS SEAT. 12 by the template 'for every input the law returns true; each argument reads behind the call as it read before'; 0 by the template 'total and deterministic' (their statements: YtfkgoljaeggbmaaTotals.lean).
  GIVEN WITH THE SEED: the statements are not yours to turn. If you find one false, say at which input.
  Laid BY PROGRAM, IN A SANDBOX (cutbox-rows.mjs): the forced cells as the released guide's own fill.sh prints them over the translation af1c34ed0d8156f0… (all of the seat's roots in one cut). By AI agents, Wed Nov 11 2026. No macro, syntax, notation, axiom, sorry.
-/
import Derived.Test.YtfkgoljaeggbmaaChecked
import GoSem.Claim
import GoSem.ClaimJoined
import GoSem.ClaimMapViews
import Derived.JoinedTies
import Derived.KernelRfl
namespace Go.Proofs.Ytfkgoljaeggbmaa
/- THE CELL 'sum', in the pinned program and in every row, IS THE sha256 OF THE DUMP (.gsa) THAT YtfkgoljaeggbmaaProg.lean LOADS. Nothing in Lean hashes anything: it is a label: what it is worth is what the hold of that sum in a sandbox is worth. -/
noncomputable def Try.pinned : Pinned := { name := "ytfkgoljaeggbmaa", sum := "af1c34ed0d8156f063af068b089c00432890c115fe6c03a2a8520e3a3a4bac38", checked := Try.checked }
namespace Rows
def none {H : Type} : Left H := { results := [], args := [] }

/-- 'penumbralaw46.XformThen': WHATEVER THE INPUT: true; the input reads as it did. -/
def xformThenSpec : ChangeSpec := { name := "xformThen", fn := fun _ => fun
  | [d1, d2, d3] => { results := [.lit (.bool true)], args := [d1, d2, d3] }
  | _ => none }
def xformThenRow : OpenClaim := { program := "ytfkgoljaeggbmaa", sum := "af1c34ed0d8156f063af068b089c00432890c115fe6c03a2a8520e3a3a4bac38", func := "penumbra/penumbralaw46.XformThen", spec := "xformThen", unfollowed := true, recurses := true, plainKeys := false, apart := false }
def XformThenSaid : Prop := xformThenRow.holds Try.pinned (OpenSpec.ofChange xformThenSpec)

/-- ITS FALSE NEIGHBOUR: 'it returns false'. Refute it at one input. -/
def xformThenWrong : ChangeSpec := { name := "xformThen", fn := fun _ => fun
  | [d1, d2, d3] => { results := [.lit (.bool false)], args := [d1, d2, d3] }
  | _ => none }
def XformThenWrongFalsely : Prop := xformThenRow.holds Try.pinned (OpenSpec.ofChange xformThenWrong)

/-- 'penumbralaw46.XformTurns': WHATEVER THE INPUT: true; the input reads as it did. -/
def xformTurnsSpec : ChangeSpec := { name := "xformTurns", fn := fun _ => fun
  | [d1, d2, d3] => { results := [.lit (.bool true)], args := [d1, d2, d3] }
  | _ => none }
def xformTurnsRow : OpenClaim := { program := "ytfkgoljaeggbmaa", sum := "af1c34ed0d8156f063af068b089c00432890c115fe6c03a2a8520e3a3a4bac38", func := "penumbra/penumbralaw46.XformTurns", spec := "xformTurns", unfollowed := true, recurses := true, plainKeys := false, apart := false }
def XformTurnsSaid : Prop := xformTurnsRow.holds Try.pinned (OpenSpec.ofChange xformTurnsSpec)

/-- ITS FALSE NEIGHBOUR: 'it returns false'. Refute it at one input. -/
def xformTurnsWrong : ChangeSpec := { name := "xformTurns", fn := fun _ => fun
  | [d1, d2, d3] => { results := [.lit (.bool false)], args := [d1, d2, d3] }
  | _ => none }
def XformTurnsWrongFalsely : Prop := xformTurnsRow.holds Try.pinned (OpenSpec.ofChange xformTurnsWrong)

/-- 'penumbralaw46.XformMoves': WHATEVER THE INPUT: true; the input reads as it did. -/
def xformMovesSpec : ChangeSpec := { name := "xformMoves", fn := fun _ => fun
  | [d1, d2, d3] => { results := [.lit (.bool true)], args := [d1, d2, d3] }
  | _ => none }
def xformMovesRow : OpenClaim := { program := "ytfkgoljaeggbmaa", sum := "af1c34ed0d8156f063af068b089c00432890c115fe6c03a2a8520e3a3a4bac38", func := "penumbra/penumbralaw46.XformMoves", spec := "xformMoves", unfollowed := true, recurses := true, plainKeys := false, apart := false }
def XformMovesSaid : Prop := xformMovesRow.holds Try.pinned (OpenSpec.ofChange xformMovesSpec)

/-- ITS FALSE NEIGHBOUR: 'it returns false'. Refute it at one input. -/
def xformMovesWrong : ChangeSpec := { name := "xformMoves", fn := fun _ => fun
  | [d1, d2, d3] => { results := [.lit (.bool false)], args := [d1, d2, d3] }
  | _ => none }
def XformMovesWrongFalsely : Prop := xformMovesRow.holds Try.pinned (OpenSpec.ofChange xformMovesWrong)

/-- 'penumbralaw46.XformMeshes': WHATEVER THE INPUT: true; the input reads as it did. -/
def xformMeshesSpec : ChangeSpec := { name := "xformMeshes", fn := fun _ => fun
  | [d] => { results := [.lit (.bool true)], args := [d] }
  | _ => none }
def xformMeshesRow : OpenClaim := { program := "ytfkgoljaeggbmaa", sum := "af1c34ed0d8156f063af068b089c00432890c115fe6c03a2a8520e3a3a4bac38", func := "penumbra/penumbralaw46.XformMeshes", spec := "xformMeshes", unfollowed := true, recurses := true, plainKeys := false, apart := false }
def XformMeshesSaid : Prop := xformMeshesRow.holds Try.pinned (OpenSpec.ofChange xformMeshesSpec)

/-- ITS FALSE NEIGHBOUR: 'it returns false'. Refute it at one input. -/
def xformMeshesWrong : ChangeSpec := { name := "xformMeshes", fn := fun _ => fun
  | [d] => { results := [.lit (.bool false)], args := [d] }
  | _ => none }
def XformMeshesWrongFalsely : Prop := xformMeshesRow.holds Try.pinned (OpenSpec.ofChange xformMeshesWrong)

/-- 'penumbralaw37.SplitTiles': WHATEVER THE INPUT: true; the input reads as it did. -/
def splitTilesSpec : ChangeSpec := { name := "splitTiles", fn := fun _ => fun
  | [d1, d2, d3] => { results := [.lit (.bool true)], args := [d1, d2, d3] }
  | _ => none }
def splitTilesRow : OpenClaim := { program := "ytfkgoljaeggbmaa", sum := "af1c34ed0d8156f063af068b089c00432890c115fe6c03a2a8520e3a3a4bac38", func := "penumbra/penumbralaw37.SplitTiles", spec := "splitTiles", unfollowed := true, recurses := true, plainKeys := false, apart := false }
def SplitTilesSaid : Prop := splitTilesRow.holds Try.pinned (OpenSpec.ofChange splitTilesSpec)

/-- ITS FALSE NEIGHBOUR: 'it returns false'. Refute it at one input. -/
def splitTilesWrong : ChangeSpec := { name := "splitTiles", fn := fun _ => fun
  | [d1, d2, d3] => { results := [.lit (.bool false)], args := [d1, d2, d3] }
  | _ => none }
def SplitTilesWrongFalsely : Prop := splitTilesRow.holds Try.pinned (OpenSpec.ofChange splitTilesWrong)

/-- 'penumbralaw37.SplitBands': WHATEVER THE INPUT: true; the input reads as it did. -/
def splitBandsSpec : ChangeSpec := { name := "splitBands", fn := fun _ => fun
  | [d1, d2, d3] => { results := [.lit (.bool true)], args := [d1, d2, d3] }
  | _ => none }
def splitBandsRow : OpenClaim := { program := "ytfkgoljaeggbmaa", sum := "af1c34ed0d8156f063af068b089c00432890c115fe6c03a2a8520e3a3a4bac38", func := "penumbra/penumbralaw37.SplitBands", spec := "splitBands", unfollowed := true, recurses := true, plainKeys := false, apart := false }
def SplitBandsSaid : Prop := splitBandsRow.holds Try.pinned (OpenSpec.ofChange splitBandsSpec)

/-- ITS FALSE NEIGHBOUR: 'it returns false'. Refute it at one input. -/
def splitBandsWrong : ChangeSpec := { name := "splitBands", fn := fun _ => fun
  | [d1, d2, d3] => { results := [.lit (.bool false)], args := [d1, d2, d3] }
  | _ => none }
def SplitBandsWrongFalsely : Prop := splitBandsRow.holds Try.pinned (OpenSpec.ofChange splitBandsWrong)

/-- 'penumbralaw37.SplitWhole': WHATEVER THE INPUT: true; the input reads as it did. -/
def splitWholeSpec : ChangeSpec := { name := "splitWhole", fn := fun _ => fun
  | [d] => { results := [.lit (.bool true)], args := [d] }
  | _ => none }
def splitWholeRow : OpenClaim := { program := "ytfkgoljaeggbmaa", sum := "af1c34ed0d8156f063af068b089c00432890c115fe6c03a2a8520e3a3a4bac38", func := "penumbra/penumbralaw37.SplitWhole", spec := "splitWhole", unfollowed := true, recurses := true, plainKeys := false, apart := false }
def SplitWholeSaid : Prop := splitWholeRow.holds Try.pinned (OpenSpec.ofChange splitWholeSpec)

/-- ITS FALSE NEIGHBOUR: 'it returns false'. Refute it at one input. -/
def splitWholeWrong : ChangeSpec := { name := "splitWhole", fn := fun _ => fun
  | [d] => { results := [.lit (.bool false)], args := [d] }
  | _ => none }
def SplitWholeWrongFalsely : Prop := splitWholeRow.holds Try.pinned (OpenSpec.ofChange splitWholeWrong)

/-- 'penumbralaw37.SplitMeets': WHATEVER THE INPUT: true; the input reads as it did. -/
def splitMeetsSpec : ChangeSpec := { name := "splitMeets", fn := fun _ => fun
  | [d] => { results := [.lit (.bool true)], args := [d] }
  | _ => none }
def splitMeetsRow : OpenClaim := { program := "ytfkgoljaeggbmaa", sum := "af1c34ed0d8156f063af068b089c00432890c115fe6c03a2a8520e3a3a4bac38", func := "penumbra/penumbralaw37.SplitMeets", spec := "splitMeets", unfollowed := true, recurses := true, plainKeys := false, apart := false }
def SplitMeetsSaid : Prop := splitMeetsRow.holds Try.pinned (OpenSpec.ofChange splitMeetsSpec)

/-- ITS FALSE NEIGHBOUR: 'it returns false'. Refute it at one input. -/
def splitMeetsWrong : ChangeSpec := { name := "splitMeets", fn := fun _ => fun
  | [d] => { results := [.lit (.bool false)], args := [d] }
  | _ => none }
def SplitMeetsWrongFalsely : Prop := splitMeetsRow.holds Try.pinned (OpenSpec.ofChange splitMeetsWrong)

/-- 'penumbralaw45.MeshLooks': WHATEVER THE INPUT: true; the input reads as it did. -/
def meshLooksSpec : ChangeSpec := { name := "meshLooks", fn := fun _ => fun
  | [d] => { results := [.lit (.bool true)], args := [d] }
  | _ => none }
def meshLooksRow : OpenClaim := { program := "ytfkgoljaeggbmaa", sum := "af1c34ed0d8156f063af068b089c00432890c115fe6c03a2a8520e3a3a4bac38", func := "penumbra/penumbralaw45.MeshLooks", spec := "meshLooks", unfollowed := true, recurses := true, plainKeys := false, apart := false }
def MeshLooksSaid : Prop := meshLooksRow.holds Try.pinned (OpenSpec.ofChange meshLooksSpec)

/-- ITS FALSE NEIGHBOUR: 'it returns false'. Refute it at one input. -/
def meshLooksWrong : ChangeSpec := { name := "meshLooks", fn := fun _ => fun
  | [d] => { results := [.lit (.bool false)], args := [d] }
  | _ => none }
def MeshLooksWrongFalsely : Prop := meshLooksRow.holds Try.pinned (OpenSpec.ofChange meshLooksWrong)

/-- 'penumbralaw45.MeshBoxes': WHATEVER THE INPUT: true; the input reads as it did. -/
def meshBoxesSpec : ChangeSpec := { name := "meshBoxes", fn := fun _ => fun
  | [d] => { results := [.lit (.bool true)], args := [d] }
  | _ => none }
def meshBoxesRow : OpenClaim := { program := "ytfkgoljaeggbmaa", sum := "af1c34ed0d8156f063af068b089c00432890c115fe6c03a2a8520e3a3a4bac38", func := "penumbra/penumbralaw45.MeshBoxes", spec := "meshBoxes", unfollowed := true, recurses := true, plainKeys := false, apart := false }
def MeshBoxesSaid : Prop := meshBoxesRow.holds Try.pinned (OpenSpec.ofChange meshBoxesSpec)

/-- ITS FALSE NEIGHBOUR: 'it returns false'. Refute it at one input. -/
def meshBoxesWrong : ChangeSpec := { name := "meshBoxes", fn := fun _ => fun
  | [d] => { results := [.lit (.bool false)], args := [d] }
  | _ => none }
def MeshBoxesWrongFalsely : Prop := meshBoxesRow.holds Try.pinned (OpenSpec.ofChange meshBoxesWrong)

/-- 'penumbralaw45.MeshTells': WHATEVER THE INPUT: true; the input reads as it did. -/
def meshTellsSpec : ChangeSpec := { name := "meshTells", fn := fun _ => fun
  | [d1, d2] => { results := [.lit (.bool true)], args := [d1, d2] }
  | _ => none }
def meshTellsRow : OpenClaim := { program := "ytfkgoljaeggbmaa", sum := "af1c34ed0d8156f063af068b089c00432890c115fe6c03a2a8520e3a3a4bac38", func := "penumbra/penumbralaw45.MeshTells", spec := "meshTells", unfollowed := true, recurses := true, plainKeys := false, apart := false }
def MeshTellsSaid : Prop := meshTellsRow.holds Try.pinned (OpenSpec.ofChange meshTellsSpec)

/-- ITS FALSE NEIGHBOUR: 'it returns false'. Refute it at one input. -/
def meshTellsWrong : ChangeSpec := { name := "meshTells", fn := fun _ => fun
  | [d1, d2] => { results := [.lit (.bool false)], args := [d1, d2] }
  | _ => none }
def MeshTellsWrongFalsely : Prop := meshTellsRow.holds Try.pinned (OpenSpec.ofChange meshTellsWrong)

/-- 'penumbralaw45.MeshJoins': WHATEVER THE INPUT: true; the input reads as it did. -/
def meshJoinsSpec : ChangeSpec := { name := "meshJoins", fn := fun _ => fun
  | [d1, d2] => { results := [.lit (.bool true)], args := [d1, d2] }
  | _ => none }
def meshJoinsRow : OpenClaim := { program := "ytfkgoljaeggbmaa", sum := "af1c34ed0d8156f063af068b089c00432890c115fe6c03a2a8520e3a3a4bac38", func := "penumbra/penumbralaw45.MeshJoins", spec := "meshJoins", unfollowed := true, recurses := true, plainKeys := false, apart := false }
def MeshJoinsSaid : Prop := meshJoinsRow.holds Try.pinned (OpenSpec.ofChange meshJoinsSpec)

/-- ITS FALSE NEIGHBOUR: 'it returns false'. Refute it at one input. -/
def meshJoinsWrong : ChangeSpec := { name := "meshJoins", fn := fun _ => fun
  | [d1, d2] => { results := [.lit (.bool false)], args := [d1, d2] }
  | _ => none }
def MeshJoinsWrongFalsely : Prop := meshJoinsRow.holds Try.pinned (OpenSpec.ofChange meshJoinsWrong)

/- THE SECOND FORM. 'bulk': how many values and letters a reading holds, each counted each time it is reached (what is shared counts as often as it is met; a slice's spare places count too). A statement '..UptoSaid' is the law's where the arguments, and the package variables that the reading takes, are together of bulk at most 1048576: NARROWER than '..Said'. Prove '..Said' where nothing that the law and all that it calls make is longer than what came in: it says more and counts as full. Else prove '..UptoSaid'. A law counts once. -/
mutual
def uptoBulk {H : Type} : DataW H → Nat
  | .lit (.string bytes) => bytes.length + 1
  | .lit _ => 1
  | .nil => 1
  | .ptr d => uptoBulk d + 1
  | .slice elems spare => uptoBulkAll elems + uptoBulkAll spare + 1
  | .agg parts => uptoBulkAll parts + 1
  | .iface _ d => uptoBulk d + 1
  | .map entries => uptoBulkEntries entries + 1
  | .held _ => 1
def uptoBulkAll {H : Type} : List (DataW H) → Nat
  | [] => 0
  | d :: r => uptoBulk d + uptoBulkAll r
def uptoBulkEntries {H : Type} : List (Lit × DataW H) → Nat
  | [] => 0
  | x :: r => uptoBulkEntry x + uptoBulkEntries r
def uptoBulkEntry {H : Type} : Lit × DataW H → Nat
  | (.string bytes, d) => bytes.length + uptoBulk d + 1
  | (_, d) => uptoBulk d + 1
 end
def uptoSmall : (H : Type) → List (DataW H) → Bool := fun _ ds => decide (uptoBulkAll ds ≤ 1048576)
def OpenSpec.upto (s : _root_.Go.ChangeSpec) : _root_.Go.OpenSpec := { _root_.Go.OpenSpec.ofChange s with cond := some uptoSmall }

/-- 'penumbralaw46.XformThen', WHERE WHAT IT READS IS OF BULK AT MOST 1048576: true; the input reads as it did. -/
def xformThenUptoRow : OpenClaim := { program := "ytfkgoljaeggbmaa", sum := "af1c34ed0d8156f063af068b089c00432890c115fe6c03a2a8520e3a3a4bac38", func := "penumbra/penumbralaw46.XformThen", spec := "xformThen", unfollowed := true, recurses := true, plainKeys := false, apart := false, narrowed := true }
def XformThenUptoSaid : Prop := xformThenUptoRow.holds Try.pinned (OpenSpec.upto xformThenSpec)

/-- 'penumbralaw46.XformTurns', WHERE WHAT IT READS IS OF BULK AT MOST 1048576: true; the input reads as it did. -/
def xformTurnsUptoRow : OpenClaim := { program := "ytfkgoljaeggbmaa", sum := "af1c34ed0d8156f063af068b089c00432890c115fe6c03a2a8520e3a3a4bac38", func := "penumbra/penumbralaw46.XformTurns", spec := "xformTurns", unfollowed := true, recurses := true, plainKeys := false, apart := false, narrowed := true }
def XformTurnsUptoSaid : Prop := xformTurnsUptoRow.holds Try.pinned (OpenSpec.upto xformTurnsSpec)

/-- 'penumbralaw46.XformMoves', WHERE WHAT IT READS IS OF BULK AT MOST 1048576: true; the input reads as it did. -/
def xformMovesUptoRow : OpenClaim := { program := "ytfkgoljaeggbmaa", sum := "af1c34ed0d8156f063af068b089c00432890c115fe6c03a2a8520e3a3a4bac38", func := "penumbra/penumbralaw46.XformMoves", spec := "xformMoves", unfollowed := true, recurses := true, plainKeys := false, apart := false, narrowed := true }
def XformMovesUptoSaid : Prop := xformMovesUptoRow.holds Try.pinned (OpenSpec.upto xformMovesSpec)

/-- 'penumbralaw46.XformMeshes', WHERE WHAT IT READS IS OF BULK AT MOST 1048576: true; the input reads as it did. -/
def xformMeshesUptoRow : OpenClaim := { program := "ytfkgoljaeggbmaa", sum := "af1c34ed0d8156f063af068b089c00432890c115fe6c03a2a8520e3a3a4bac38", func := "penumbra/penumbralaw46.XformMeshes", spec := "xformMeshes", unfollowed := true, recurses := true, plainKeys := false, apart := false, narrowed := true }
def XformMeshesUptoSaid : Prop := xformMeshesUptoRow.holds Try.pinned (OpenSpec.upto xformMeshesSpec)

/-- 'penumbralaw37.SplitTiles', WHERE WHAT IT READS IS OF BULK AT MOST 1048576: true; the input reads as it did. -/
def splitTilesUptoRow : OpenClaim := { program := "ytfkgoljaeggbmaa", sum := "af1c34ed0d8156f063af068b089c00432890c115fe6c03a2a8520e3a3a4bac38", func := "penumbra/penumbralaw37.SplitTiles", spec := "splitTiles", unfollowed := true, recurses := true, plainKeys := false, apart := false, narrowed := true }
def SplitTilesUptoSaid : Prop := splitTilesUptoRow.holds Try.pinned (OpenSpec.upto splitTilesSpec)

/-- 'penumbralaw37.SplitBands', WHERE WHAT IT READS IS OF BULK AT MOST 1048576: true; the input reads as it did. -/
def splitBandsUptoRow : OpenClaim := { program := "ytfkgoljaeggbmaa", sum := "af1c34ed0d8156f063af068b089c00432890c115fe6c03a2a8520e3a3a4bac38", func := "penumbra/penumbralaw37.SplitBands", spec := "splitBands", unfollowed := true, recurses := true, plainKeys := false, apart := false, narrowed := true }
def SplitBandsUptoSaid : Prop := splitBandsUptoRow.holds Try.pinned (OpenSpec.upto splitBandsSpec)

/-- 'penumbralaw37.SplitWhole', WHERE WHAT IT READS IS OF BULK AT MOST 1048576: true; the input reads as it did. -/
def splitWholeUptoRow : OpenClaim := { program := "ytfkgoljaeggbmaa", sum := "af1c34ed0d8156f063af068b089c00432890c115fe6c03a2a8520e3a3a4bac38", func := "penumbra/penumbralaw37.SplitWhole", spec := "splitWhole", unfollowed := true, recurses := true, plainKeys := false, apart := false, narrowed := true }
def SplitWholeUptoSaid : Prop := splitWholeUptoRow.holds Try.pinned (OpenSpec.upto splitWholeSpec)

/-- 'penumbralaw37.SplitMeets', WHERE WHAT IT READS IS OF BULK AT MOST 1048576: true; the input reads as it did. -/
def splitMeetsUptoRow : OpenClaim := { program := "ytfkgoljaeggbmaa", sum := "af1c34ed0d8156f063af068b089c00432890c115fe6c03a2a8520e3a3a4bac38", func := "penumbra/penumbralaw37.SplitMeets", spec := "splitMeets", unfollowed := true, recurses := true, plainKeys := false, apart := false, narrowed := true }
def SplitMeetsUptoSaid : Prop := splitMeetsUptoRow.holds Try.pinned (OpenSpec.upto splitMeetsSpec)

/-- 'penumbralaw45.MeshLooks', WHERE WHAT IT READS IS OF BULK AT MOST 1048576: true; the input reads as it did. -/
def meshLooksUptoRow : OpenClaim := { program := "ytfkgoljaeggbmaa", sum := "af1c34ed0d8156f063af068b089c00432890c115fe6c03a2a8520e3a3a4bac38", func := "penumbra/penumbralaw45.MeshLooks", spec := "meshLooks", unfollowed := true, recurses := true, plainKeys := false, apart := false, narrowed := true }
def MeshLooksUptoSaid : Prop := meshLooksUptoRow.holds Try.pinned (OpenSpec.upto meshLooksSpec)

/-- 'penumbralaw45.MeshBoxes', WHERE WHAT IT READS IS OF BULK AT MOST 1048576: true; the input reads as it did. -/
def meshBoxesUptoRow : OpenClaim := { program := "ytfkgoljaeggbmaa", sum := "af1c34ed0d8156f063af068b089c00432890c115fe6c03a2a8520e3a3a4bac38", func := "penumbra/penumbralaw45.MeshBoxes", spec := "meshBoxes", unfollowed := true, recurses := true, plainKeys := false, apart := false, narrowed := true }
def MeshBoxesUptoSaid : Prop := meshBoxesUptoRow.holds Try.pinned (OpenSpec.upto meshBoxesSpec)

/-- 'penumbralaw45.MeshTells', WHERE WHAT IT READS IS OF BULK AT MOST 1048576: true; the input reads as it did. -/
def meshTellsUptoRow : OpenClaim := { program := "ytfkgoljaeggbmaa", sum := "af1c34ed0d8156f063af068b089c00432890c115fe6c03a2a8520e3a3a4bac38", func := "penumbra/penumbralaw45.MeshTells", spec := "meshTells", unfollowed := true, recurses := true, plainKeys := false, apart := false, narrowed := true }
def MeshTellsUptoSaid : Prop := meshTellsUptoRow.holds Try.pinned (OpenSpec.upto meshTellsSpec)

/-- 'penumbralaw45.MeshJoins', WHERE WHAT IT READS IS OF BULK AT MOST 1048576: true; the input reads as it did. -/
def meshJoinsUptoRow : OpenClaim := { program := "ytfkgoljaeggbmaa", sum := "af1c34ed0d8156f063af068b089c00432890c115fe6c03a2a8520e3a3a4bac38", func := "penumbra/penumbralaw45.MeshJoins", spec := "meshJoins", unfollowed := true, recurses := true, plainKeys := false, apart := false, narrowed := true }
def MeshJoinsUptoSaid : Prop := meshJoinsUptoRow.holds Try.pinned (OpenSpec.upto meshJoinsSpec)

end Rows
end Go.Proofs.Ytfkgoljaeggbmaa
