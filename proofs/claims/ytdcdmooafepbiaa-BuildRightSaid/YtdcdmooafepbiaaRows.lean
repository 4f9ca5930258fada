/-
  No cell of these rows narrows 'for every input' (looked for: loops, veiled, ifaces, maps, wideKeys, modest, calm, conditions, laid).
  DERIVED. THE GIVEN ROWS OF THIS SEAT. 7 by the template 'for every input the law returns true; each argument reads behind the call as it read before'; 0 by the template 'total and deterministic' (their statements: YtdcdmooafepbiaaTotals.lean).
  GIVEN WITH THE SEED: the statements are not yours to turn. If you find one false, say at which input.
  Laid BY PROGRAM, IN A SANDBOX (cutbox-rows.mjs): the forced cells as the released guide's own fill.sh prints them over the translation 22801b05571af7cf… (all of the seat's roots in one cut). By AI agents, Wed Nov 11 2026. No macro, syntax, notation, axiom, sorry.
-/
import Derived.Test.YtdcdmooafepbiaaChecked
import GoSem.Claim
import GoSem.ClaimJoined
import GoSem.ClaimMapViews
import Derived.JoinedTies
import Derived.KernelRfl
namespace Go.Proofs.Ytdcdmooafepbiaa
/- THE CELL 'sum', in the pinned program and in every row, IS THE sha256 OF THE DUMP (.gsa) THAT YtdcdmooafepbiaaProg.lean LOADS. Nothing in Lean hashes anything: it is a label: what it is worth is what the hold of that sum in a sandbox is worth. -/
noncomputable def Try.pinned : Pinned := { name := "ytdcdmooafepbiaa", sum := "22801b05571af7cfe0cff30b2574aad556cff2d76acafaca5129d1ebbaca3c20", checked := Try.checked }
namespace Rows
def none {H : Type} : Left H := { results := [], args := [] }

/-- 'penumbralaw38.TilesCuts': WHATEVER THE INPUT: true; the input reads as it did. -/
def tilesCutsSpec : ChangeSpec := { name := "tilesCuts", fn := fun _ => fun
  | [d1, d2, d3] => { results := [.lit (.bool true)], args := [d1, d2, d3] }
  | _ => none }
def tilesCutsRow : OpenClaim := { program := "ytdcdmooafepbiaa", sum := "22801b05571af7cfe0cff30b2574aad556cff2d76acafaca5129d1ebbaca3c20", func := "penumbra/penumbralaw38.TilesCuts", spec := "tilesCuts", unfollowed := true, recurses := true, plainKeys := false, apart := false }
def TilesCutsSaid : Prop := tilesCutsRow.holds Try.pinned (OpenSpec.ofChange tilesCutsSpec)

/-- ITS FALSE NEIGHBOUR: 'it returns false'. Refute it at one input. -/
def tilesCutsWrong : ChangeSpec := { name := "tilesCuts", fn := fun _ => fun
  | [d1, d2, d3] => { results := [.lit (.bool false)], args := [d1, d2, d3] }
  | _ => none }
def TilesCutsWrongFalsely : Prop := tilesCutsRow.holds Try.pinned (OpenSpec.ofChange tilesCutsWrong)

/-- 'penumbralaw45.MeshLooks': WHATEVER THE INPUT: true; the input reads as it did. -/
def meshLooksSpec : ChangeSpec := { name := "meshLooks", fn := fun _ => fun
  | [d] => { results := [.lit (.bool true)], args := [d] }
  | _ => none }
def meshLooksRow : OpenClaim := { program := "ytdcdmooafepbiaa", sum := "22801b05571af7cfe0cff30b2574aad556cff2d76acafaca5129d1ebbaca3c20", func := "penumbra/penumbralaw45.MeshLooks", spec := "meshLooks", unfollowed := true, recurses := true, plainKeys := false, apart := false }
def MeshLooksSaid : Prop := meshLooksRow.holds Try.pinned (OpenSpec.ofChange meshLooksSpec)

/-- ITS FALSE NEIGHBOUR: 'it returns false'. Refute it at one input. -/
def meshLooksWrong : ChangeSpec := { name := "meshLooks", fn := fun _ => fun
  | [d] => { results := [.lit (.bool false)], args := [d] }
  | _ => none }
def MeshLooksWrongFalsely : Prop := meshLooksRow.holds Try.pinned (OpenSpec.ofChange meshLooksWrong)

/-- 'penumbralaw45.MeshBoxes': WHATEVER THE INPUT: true; the input reads as it did. -/
def meshBoxesSpec : ChangeSpec := { name := "meshBoxes", fn := fun _ => fun
  | [d] => { results := [.lit (.bool true)], args := [d] }
  | _ => none }
def meshBoxesRow : OpenClaim := { program := "ytdcdmooafepbiaa", sum := "22801b05571af7cfe0cff30b2574aad556cff2d76acafaca5129d1ebbaca3c20", func := "penumbra/penumbralaw45.MeshBoxes", spec := "meshBoxes", unfollowed := true, recurses := true, plainKeys := false, apart := false }
def MeshBoxesSaid : Prop := meshBoxesRow.holds Try.pinned (OpenSpec.ofChange meshBoxesSpec)

/-- ITS FALSE NEIGHBOUR: 'it returns false'. Refute it at one input. -/
def meshBoxesWrong : ChangeSpec := { name := "meshBoxes", fn := fun _ => fun
  | [d] => { results := [.lit (.bool false)], args := [d] }
  | _ => none }
def MeshBoxesWrongFalsely : Prop := meshBoxesRow.holds Try.pinned (OpenSpec.ofChange meshBoxesWrong)

/-- 'penumbralaw45.MeshTells': WHATEVER THE INPUT: true; the input reads as it did. -/
def meshTellsSpec : ChangeSpec := { name := "meshTells", fn := fun _ => fun
  | [d1, d2] => { results := [.lit (.bool true)], args := [d1, d2] }
  | _ => none }
def meshTellsRow : OpenClaim := { program := "ytdcdmooafepbiaa", sum := "22801b05571af7cfe0cff30b2574aad556cff2d76acafaca5129d1ebbaca3c20", func := "penumbra/penumbralaw45.MeshTells", spec := "meshTells", unfollowed := true, recurses := true, plainKeys := false, apart := false }
def MeshTellsSaid : Prop := meshTellsRow.holds Try.pinned (OpenSpec.ofChange meshTellsSpec)

/-- ITS FALSE NEIGHBOUR: 'it returns false'. Refute it at one input. -/
def meshTellsWrong : ChangeSpec := { name := "meshTells", fn := fun _ => fun
  | [d1, d2] => { results := [.lit (.bool false)], args := [d1, d2] }
  | _ => none }
def MeshTellsWrongFalsely : Prop := meshTellsRow.holds Try.pinned (OpenSpec.ofChange meshTellsWrong)

/-- 'penumbralaw45.MeshJoins': WHATEVER THE INPUT: true; the input reads as it did. -/
def meshJoinsSpec : ChangeSpec := { name := "meshJoins", fn := fun _ => fun
  | [d1, d2] => { results := [.lit (.bool true)], args := [d1, d2] }
  | _ => none }
def meshJoinsRow : OpenClaim := { program := "ytdcdmooafepbiaa", sum := "22801b05571af7cfe0cff30b2574aad556cff2d76acafaca5129d1ebbaca3c20", func := "penumbra/penumbralaw45.MeshJoins", spec := "meshJoins", unfollowed := true, recurses := true, plainKeys := false, apart := false }
def MeshJoinsSaid : Prop := meshJoinsRow.holds Try.pinned (OpenSpec.ofChange meshJoinsSpec)

/-- ITS FALSE NEIGHBOUR: 'it returns false'. Refute it at one input. -/
def meshJoinsWrong : ChangeSpec := { name := "meshJoins", fn := fun _ => fun
  | [d1, d2] => { results := [.lit (.bool false)], args := [d1, d2] }
  | _ => none }
def MeshJoinsWrongFalsely : Prop := meshJoinsRow.holds Try.pinned (OpenSpec.ofChange meshJoinsWrong)

/-- 'penumbralaw46.XformMeshes': WHATEVER THE INPUT: true; the input reads as it did. -/
def xformMeshesSpec : ChangeSpec := { name := "xformMeshes", fn := fun _ => fun
  | [d] => { results := [.lit (.bool true)], args := [d] }
  | _ => none }
def xformMeshesRow : OpenClaim := { program := "ytdcdmooafepbiaa", sum := "22801b05571af7cfe0cff30b2574aad556cff2d76acafaca5129d1ebbaca3c20", func := "penumbra/penumbralaw46.XformMeshes", spec := "xformMeshes", unfollowed := true, recurses := true, plainKeys := false, apart := false }
def XformMeshesSaid : Prop := xformMeshesRow.holds Try.pinned (OpenSpec.ofChange xformMeshesSpec)

/-- ITS FALSE NEIGHBOUR: 'it returns false'. Refute it at one input. -/
def xformMeshesWrong : ChangeSpec := { name := "xformMeshes", fn := fun _ => fun
  | [d] => { results := [.lit (.bool false)], args := [d] }
  | _ => none }
def XformMeshesWrongFalsely : Prop := xformMeshesRow.holds Try.pinned (OpenSpec.ofChange xformMeshesWrong)

/-- 'penumbralaw47.BuildRight': WHATEVER THE INPUT: true; the input reads as it did. -/
def buildRightSpec : ChangeSpec := { name := "buildRight", fn := fun _ => fun
  | [d] => { results := [.lit (.bool true)], args := [d] }
  | _ => none }
def buildRightRow : OpenClaim := { program := "ytdcdmooafepbiaa", sum := "22801b05571af7cfe0cff30b2574aad556cff2d76acafaca5129d1ebbaca3c20", func := "penumbra/penumbralaw47.BuildRight", spec := "buildRight", unfollowed := true, recurses := true, plainKeys := false, apart := false }
def BuildRightSaid : Prop := buildRightRow.holds Try.pinned (OpenSpec.ofChange buildRightSpec)

/-- ITS FALSE NEIGHBOUR: 'it returns false'. Refute it at one input. -/
def buildRightWrong : ChangeSpec := { name := "buildRight", fn := fun _ => fun
  | [d] => { results := [.lit (.bool false)], args := [d] }
  | _ => none }
def BuildRightWrongFalsely : Prop := buildRightRow.holds Try.pinned (OpenSpec.ofChange buildRightWrong)

/- THE SECOND FORM. 'bulk': how many values and letters a reading holds, each counted each time it is reached (what is shared counts as often as it is met; a slice's spare places count too). A statement '..UptoSaid' is the law's where the arguments, and the package variables that the reading takes, are together of bulk at most 1048576: NARROWER than '..Said'. Prove '..Said' where nothing that the law and all that it calls make is longer than what came in: it says more and counts as full. Else prove '..UptoSaid'. A law counts once. -/
mutual
def uptoBulk {H : Type} : DataW H → Nat
  | .lit (.string bytes) => bytes.length + 1
  | .lit _ => 1
  | .nil => 1
  | .ptr d => uptoBulk d + 1
  | .slice elems spare => uptoBulkAll elems + uptoBulkAll spare + 1
  | .agg parts => uptoBulkAll parts + 1
  | .iface _ d => uptoBulk d + 1
  | .map entries => uptoBulkEntries entries + 1
  | .held _ => 1
def uptoBulkAll {H : Type} : List (DataW H) → Nat
  | [] => 0
  | d :: r => uptoBulk d + uptoBulkAll r
def uptoBulkEntries {H : Type} : List (Lit × DataW H) → Nat
  | [] => 0
  | x :: r => uptoBulkEntry x + uptoBulkEntries r
def uptoBulkEntry {H : Type} : Lit × DataW H → Nat
  | (.string bytes, d) => bytes.length + uptoBulk d + 1
  | (_, d) => uptoBulk d + 1
 end
def uptoSmall : (H : Type) → List (DataW H) → Bool := fun _ ds => decide (uptoBulkAll ds ≤ 1048576)
def OpenSpec.upto (s : _root_.Go.ChangeSpec) : _root_.Go.OpenSpec := { _root_.Go.OpenSpec.ofChange s with cond := some uptoSmall }

/-- 'penumbralaw38.TilesCuts', WHERE WHAT IT READS IS OF BULK AT MOST 1048576: true; the input reads as it did. -/
def tilesCutsUptoRow : OpenClaim := { program := "ytdcdmooafepbiaa", sum := "22801b05571af7cfe0cff30b2574aad556cff2d76acafaca5129d1ebbaca3c20", func := "penumbra/penumbralaw38.TilesCuts", spec := "tilesCuts", unfollowed := true, recurses := true, plainKeys := false, apart := false, narrowed := true }
def TilesCutsUptoSaid : Prop := tilesCutsUptoRow.holds Try.pinned (OpenSpec.upto tilesCutsSpec)

/-- 'penumbralaw45.MeshLooks', WHERE WHAT IT READS IS OF BULK AT MOST 1048576: true; the input reads as it did. -/
def meshLooksUptoRow : OpenClaim := { program := "ytdcdmooafepbiaa", sum := "22801b05571af7cfe0cff30b2574aad556cff2d76acafaca5129d1ebbaca3c20", func := "penumbra/penumbralaw45.MeshLooks", spec := "meshLooks", unfollowed := true, recurses := true, plainKeys := false, apart := false, narrowed := true }
def MeshLooksUptoSaid : Prop := meshLooksUptoRow.holds Try.pinned (OpenSpec.upto meshLooksSpec)

/-- 'penumbralaw45.MeshBoxes', WHERE WHAT IT READS IS OF BULK AT MOST 1048576: true; the input reads as it did. -/
def meshBoxesUptoRow : OpenClaim := { program := "ytdcdmooafepbiaa", sum := "22801b05571af7cfe0cff30b2574aad556cff2d76acafaca5129d1ebbaca3c20", func := "penumbra/penumbralaw45.MeshBoxes", spec := "meshBoxes", unfollowed := true, recurses := true, plainKeys := false, apart := false, narrowed := true }
def MeshBoxesUptoSaid : Prop := meshBoxesUptoRow.holds Try.pinned (OpenSpec.upto meshBoxesSpec)

/-- 'penumbralaw45.MeshTells', WHERE WHAT IT READS IS OF BULK AT MOST 1048576: true; the input reads as it did. -/
def meshTellsUptoRow : OpenClaim := { program := "ytdcdmooafepbiaa", sum := "22801b05571af7cfe0cff30b2574aad556cff2d76acafaca5129d1ebbaca3c20", func := "penumbra/penumbralaw45.MeshTells", spec := "meshTells", unfollowed := true, recurses := true, plainKeys := false, apart := false, narrowed := true }
def MeshTellsUptoSaid : Prop := meshTellsUptoRow.holds Try.pinned (OpenSpec.upto meshTellsSpec)

/-- 'penumbralaw45.MeshJoins', WHERE WHAT IT READS IS OF BULK AT MOST 1048576: true; the input reads as it did. -/
def meshJoinsUptoRow : OpenClaim := { program := "ytdcdmooafepbiaa", sum := "22801b05571af7cfe0cff30b2574aad556cff2d76acafaca5129d1ebbaca3c20", func := "penumbra/penumbralaw45.MeshJoins", spec := "meshJoins", unfollowed := true, recurses := true, plainKeys := false, apart := false, narrowed := true }
def MeshJoinsUptoSaid : Prop := meshJoinsUptoRow.holds Try.pinned (OpenSpec.upto meshJoinsSpec)

/-- 'penumbralaw46.XformMeshes', WHERE WHAT IT READS IS OF BULK AT MOST 1048576: true; the input reads as it did. -/
def xformMeshesUptoRow : OpenClaim := { program := "ytdcdmooafepbiaa", sum := "22801b05571af7cfe0cff30b2574aad556cff2d76acafaca5129d1ebbaca3c20", func := "penumbra/penumbralaw46.XformMeshes", spec := "xformMeshes", unfollowed := true, recurses := true, plainKeys := false, apart := false, narrowed := true }
def XformMeshesUptoSaid : Prop := xformMeshesUptoRow.holds Try.pinned (OpenSpec.upto xformMeshesSpec)

/-- 'penumbralaw47.BuildRight', WHERE WHAT IT READS IS OF BULK AT MOST 1048576: true; the input reads as it did. -/
def buildRightUptoRow : OpenClaim := { program := "ytdcdmooafepbiaa", sum := "22801b05571af7cfe0cff30b2574aad556cff2d76acafaca5129d1ebbaca3c20", func := "penumbra/penumbralaw47.BuildRight", spec := "buildRight", unfollowed := true, recurses := true, plainKeys := false, apart := false, narrowed := true }
def BuildRightUptoSaid : Prop := buildRightUptoRow.holds Try.pinned (OpenSpec.upto buildRightSpec)

end Rows
end Go.Proofs.Ytdcdmooafepbiaa
