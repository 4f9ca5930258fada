/-
  No cell of these rows narrows 'for every input' (looked for: loops, veiled, ifaces, maps, wideKeys, modest, calm, conditions, laid).
  DERIVED. THE GIVEN ROWS OF THIS SEAT. 7 by the template 'for every input the law returns true; each argument reads behind the call as it read before'; 0 by the template 'total and deterministic' (their statements: YtfkgoljaeggbmabTotals.lean).
  GIVEN WITH THE SEED: the statements are not yours to turn. If you find one false, say at which input.
  Laid BY PROGRAM, IN A SANDBOX (cutbox-rows.mjs): the forced cells as the released guide's own fill.sh prints them over the translation 0f7c2efe08825e99… (all of the seat's roots in one cut). By AI agents, Wed Nov 11 2026. No macro, syntax, notation, axiom, sorry.
-/
import Derived.Test.YtfkgoljaeggbmabChecked
import GoSem.Claim
import GoSem.ClaimJoined
import GoSem.ClaimMapViews
import Derived.JoinedTies
import Derived.KernelRfl
namespace Go.Proofs.Ytfkgoljaeggbmab
/- THE CELL 'sum', in the pinned program and in every row, IS THE sha256 OF THE DUMP (.gsa) THAT YtfkgoljaeggbmabProg.lean LOADS. Nothing in Lean hashes anything: it is a label: what it is worth is what the hold of that sum in a sandbox is worth. -/
noncomputable def Try.pinned : Pinned := { name := "ytfkgoljaeggbmab", sum := "0f7c2efe08825e994ab0cf0514c99dae09eb21edf80bcfadb4e981746ada7f77", checked := Try.checked }
namespace Rows
def none {H : Type} : Left H := { results := [], args := [] }

/-- 'penumbralaw29.ImageEncodes': WHATEVER THE INPUT: true; the input reads as it did. -/
def imageEncodesSpec : ChangeSpec := { name := "imageEncodes", fn := fun _ => fun
  | [d] => { results := [.lit (.bool true)], args := [d] }
  | _ => none }
def imageEncodesRow : OpenClaim := { program := "ytfkgoljaeggbmab", sum := "0f7c2efe08825e994ab0cf0514c99dae09eb21edf80bcfadb4e981746ada7f77", func := "penumbra/penumbralaw29.ImageEncodes", spec := "imageEncodes", inPlace := ["math.Float64bits", "math.Float64frombits"], unfollowed := true, recurses := true, apart := false }
def ImageEncodesSaid : Prop := imageEncodesRow.holds Try.pinned (OpenSpec.ofChange imageEncodesSpec)

/-- ITS FALSE NEIGHBOUR: 'it returns false'. Refute it at one input. -/
def imageEncodesWrong : ChangeSpec := { name := "imageEncodes", fn := fun _ => fun
  | [d] => { results := [.lit (.bool false)], args := [d] }
  | _ => none }
def ImageEncodesWrongFalsely : Prop := imageEncodesRow.holds Try.pinned (OpenSpec.ofChange imageEncodesWrong)

/-- 'penumbralaw29.ImageDecodes': WHATEVER THE INPUT: true; the input reads as it did. -/
def imageDecodesSpec : ChangeSpec := { name := "imageDecodes", fn := fun _ => fun
  | [d] => { results := [.lit (.bool true)], args := [d] }
  | _ => none }
def imageDecodesRow : OpenClaim := { program := "ytfkgoljaeggbmab", sum := "0f7c2efe08825e994ab0cf0514c99dae09eb21edf80bcfadb4e981746ada7f77", func := "penumbra/penumbralaw29.ImageDecodes", spec := "imageDecodes", inPlace := ["math.Float64bits", "math.Float64frombits"], unfollowed := true, recurses := true, apart := false }
def ImageDecodesSaid : Prop := imageDecodesRow.holds Try.pinned (OpenSpec.ofChange imageDecodesSpec)

/-- ITS FALSE NEIGHBOUR: 'it returns false'. Refute it at one input. -/
def imageDecodesWrong : ChangeSpec := { name := "imageDecodes", fn := fun _ => fun
  | [d] => { results := [.lit (.bool false)], args := [d] }
  | _ => none }
def ImageDecodesWrongFalsely : Prop := imageDecodesRow.holds Try.pinned (OpenSpec.ofChange imageDecodesWrong)

/-- 'penumbralaw29.ImageShort': WHATEVER THE INPUT: true; the input reads as it did. -/
def imageShortSpec : ChangeSpec := { name := "imageShort", fn := fun _ => fun
  | [d] => { results := [.lit (.bool true)], args := [d] }
  | _ => none }
def imageShortRow : OpenClaim := { program := "ytfkgoljaeggbmab", sum := "0f7c2efe08825e994ab0cf0514c99dae09eb21edf80bcfadb4e981746ada7f77", func := "penumbra/penumbralaw29.ImageShort", spec := "imageShort", inPlace := ["math.Float64bits", "math.Float64frombits"], unfollowed := true, recurses := true, apart := false }
def ImageShortSaid : Prop := imageShortRow.holds Try.pinned (OpenSpec.ofChange imageShortSpec)

/-- ITS FALSE NEIGHBOUR: 'it returns false'. Refute it at one input. -/
def imageShortWrong : ChangeSpec := { name := "imageShort", fn := fun _ => fun
  | [d] => { results := [.lit (.bool false)], args := [d] }
  | _ => none }
def ImageShortWrongFalsely : Prop := imageShortRow.holds Try.pinned (OpenSpec.ofChange imageShortWrong)

/-- 'penumbralaw29.ImageBits': WHATEVER THE INPUT: true; the input reads as it did. -/
def imageBitsSpec : ChangeSpec := { name := "imageBits", fn := fun _ => fun
  | [d1, d2, d3] => { results := [.lit (.bool true)], args := [d1, d2, d3] }
  | _ => none }
def imageBitsRow : OpenClaim := { program := "ytfkgoljaeggbmab", sum := "0f7c2efe08825e994ab0cf0514c99dae09eb21edf80bcfadb4e981746ada7f77", func := "penumbra/penumbralaw29.ImageBits", spec := "imageBits", inPlace := ["math.Float64bits", "math.Float64frombits"], unfollowed := true, recurses := true, apart := false }
def ImageBitsSaid : Prop := imageBitsRow.holds Try.pinned (OpenSpec.ofChange imageBitsSpec)

/-- ITS FALSE NEIGHBOUR: 'it returns false'. Refute it at one input. -/
def imageBitsWrong : ChangeSpec := { name := "imageBits", fn := fun _ => fun
  | [d1, d2, d3] => { results := [.lit (.bool false)], args := [d1, d2, d3] }
  | _ => none }
def ImageBitsWrongFalsely : Prop := imageBitsRow.holds Try.pinned (OpenSpec.ofChange imageBitsWrong)

/-- 'penumbralaw38.TilesCuts': WHATEVER THE INPUT: true; the input reads as it did. -/
def tilesCutsSpec : ChangeSpec := { name := "tilesCuts", fn := fun _ => fun
  | [d1, d2, d3] => { results := [.lit (.bool true)], args := [d1, d2, d3] }
  | _ => none }
def tilesCutsRow : OpenClaim := { program := "ytfkgoljaeggbmab", sum := "0f7c2efe08825e994ab0cf0514c99dae09eb21edf80bcfadb4e981746ada7f77", func := "penumbra/penumbralaw38.TilesCuts", spec := "tilesCuts", unfollowed := true, recurses := true, apart := false }
def TilesCutsSaid : Prop := tilesCutsRow.holds Try.pinned (OpenSpec.ofChange tilesCutsSpec)

/-- ITS FALSE NEIGHBOUR: 'it returns false'. Refute it at one input. -/
def tilesCutsWrong : ChangeSpec := { name := "tilesCuts", fn := fun _ => fun
  | [d1, d2, d3] => { results := [.lit (.bool false)], args := [d1, d2, d3] }
  | _ => none }
def TilesCutsWrongFalsely : Prop := tilesCutsRow.holds Try.pinned (OpenSpec.ofChange tilesCutsWrong)

/-- 'penumbralaw22.SceneParts': WHATEVER THE INPUT: true; the input reads as it did. -/
def scenePartsSpec : ChangeSpec := { name := "sceneParts", fn := fun _ => fun
  | [d] => { results := [.lit (.bool true)], args := [d] }
  | _ => none }
def scenePartsRow : OpenClaim := { program := "ytfkgoljaeggbmab", sum := "0f7c2efe08825e994ab0cf0514c99dae09eb21edf80bcfadb4e981746ada7f77", func := "penumbra/penumbralaw22.SceneParts", spec := "sceneParts", inPlace := ["internal/reflectlite.TypeOf"], unfollowed := true, recurses := true, apart := false }
def ScenePartsSaid : Prop := scenePartsRow.holds Try.pinned (OpenSpec.ofChange scenePartsSpec)

/-- ITS FALSE NEIGHBOUR: 'it returns false'. Refute it at one input. -/
def scenePartsWrong : ChangeSpec := { name := "sceneParts", fn := fun _ => fun
  | [d] => { results := [.lit (.bool false)], args := [d] }
  | _ => none }
def ScenePartsWrongFalsely : Prop := scenePartsRow.holds Try.pinned (OpenSpec.ofChange scenePartsWrong)

/-- 'penumbralaw47.BuildRight': WHATEVER THE INPUT: true; the input reads as it did. -/
def buildRightSpec : ChangeSpec := { name := "buildRight", fn := fun _ => fun
  | [d] => { results := [.lit (.bool true)], args := [d] }
  | _ => none }
def buildRightRow : OpenClaim := { program := "ytfkgoljaeggbmab", sum := "0f7c2efe08825e994ab0cf0514c99dae09eb21edf80bcfadb4e981746ada7f77", func := "penumbra/penumbralaw47.BuildRight", spec := "buildRight", unfollowed := true, recurses := true, apart := false }
def BuildRightSaid : Prop := buildRightRow.holds Try.pinned (OpenSpec.ofChange buildRightSpec)

/-- ITS FALSE NEIGHBOUR: 'it returns false'. Refute it at one input. -/
def buildRightWrong : ChangeSpec := { name := "buildRight", fn := fun _ => fun
  | [d] => { results := [.lit (.bool false)], args := [d] }
  | _ => none }
def BuildRightWrongFalsely : Prop := buildRightRow.holds Try.pinned (OpenSpec.ofChange buildRightWrong)

/- THE SECOND FORM. 'bulk': how many values and letters a reading holds, each counted each time it is reached (what is shared counts as often as it is met; a slice's spare places count too). A statement '..UptoSaid' is the law's where the arguments, and the package variables that the reading takes, are together of bulk at most 1048576: NARROWER than '..Said'. Prove '..Said' where nothing that the law and all that it calls make is longer than what came in: it says more and counts as full. Else prove '..UptoSaid'. A law counts once. -/
mutual
def uptoBulk {H : Type} : DataW H → Nat
  | .lit (.string bytes) => bytes.length + 1
  | .lit _ => 1
  | .nil => 1
  | .ptr d => uptoBulk d + 1
  | .slice elems spare => uptoBulkAll elems + uptoBulkAll spare + 1
  | .agg parts => uptoBulkAll parts + 1
  | .iface _ d => uptoBulk d + 1
  | .map entries => uptoBulkEntries entries + 1
  | .held _ => 1
def uptoBulkAll {H : Type} : List (DataW H) → Nat
  | [] => 0
  | d :: r => uptoBulk d + uptoBulkAll r
def uptoBulkEntries {H : Type} : List (Lit × DataW H) → Nat
  | [] => 0
  | x :: r => uptoBulkEntry x + uptoBulkEntries r
def uptoBulkEntry {H : Type} : Lit × DataW H → Nat
  | (.string bytes, d) => bytes.length + uptoBulk d + 1
  | (_, d) => uptoBulk d + 1
 end
def uptoSmall : (H : Type) → List (DataW H) → Bool := fun _ ds => decide (uptoBulkAll ds ≤ 1048576)
def OpenSpec.upto (s : _root_.Go.ChangeSpec) : _root_.Go.OpenSpec := { _root_.Go.OpenSpec.ofChange s with cond := some uptoSmall }

/-- 'penumbralaw29.ImageEncodes', WHERE WHAT IT READS IS OF BULK AT MOST 1048576: true; the input reads as it did. -/
def imageEncodesUptoRow : OpenClaim := { program := "ytfkgoljaeggbmab", sum := "0f7c2efe08825e994ab0cf0514c99dae09eb21edf80bcfadb4e981746ada7f77", func := "penumbra/penumbralaw29.ImageEncodes", spec := "imageEncodes", inPlace := ["math.Float64bits", "math.Float64frombits"], unfollowed := true, recurses := true, apart := false, narrowed := true }
def ImageEncodesUptoSaid : Prop := imageEncodesUptoRow.holds Try.pinned (OpenSpec.upto imageEncodesSpec)

/-- 'penumbralaw29.ImageDecodes', WHERE WHAT IT READS IS OF BULK AT MOST 1048576: true; the input reads as it did. -/
def imageDecodesUptoRow : OpenClaim := { program := "ytfkgoljaeggbmab", sum := "0f7c2efe08825e994ab0cf0514c99dae09eb21edf80bcfadb4e981746ada7f77", func := "penumbra/penumbralaw29.ImageDecodes", spec := "imageDecodes", inPlace := ["math.Float64bits", "math.Float64frombits"], unfollowed := true, recurses := true, apart := false, narrowed := true }
def ImageDecodesUptoSaid : Prop := imageDecodesUptoRow.holds Try.pinned (OpenSpec.upto imageDecodesSpec)

/-- 'penumbralaw29.ImageShort', WHERE WHAT IT READS IS OF BULK AT MOST 1048576: true; the input reads as it did. -/
def imageShortUptoRow : OpenClaim := { program := "ytfkgoljaeggbmab", sum := "0f7c2efe08825e994ab0cf0514c99dae09eb21edf80bcfadb4e981746ada7f77", func := "penumbra/penumbralaw29.ImageShort", spec := "imageShort", inPlace := ["math.Float64bits", "math.Float64frombits"], unfollowed := true, recurses := true, apart := false, narrowed := true }
def ImageShortUptoSaid : Prop := imageShortUptoRow.holds Try.pinned (OpenSpec.upto imageShortSpec)

/-- 'penumbralaw29.ImageBits', WHERE WHAT IT READS IS OF BULK AT MOST 1048576: true; the input reads as it did. -/
def imageBitsUptoRow : OpenClaim := { program := "ytfkgoljaeggbmab", sum := "0f7c2efe08825e994ab0cf0514c99dae09eb21edf80bcfadb4e981746ada7f77", func := "penumbra/penumbralaw29.ImageBits", spec := "imageBits", inPlace := ["math.Float64bits", "math.Float64frombits"], unfollowed := true, recurses := true, apart := false, narrowed := true }
def ImageBitsUptoSaid : Prop := imageBitsUptoRow.holds Try.pinned (OpenSpec.upto imageBitsSpec)

/-- 'penumbralaw38.TilesCuts', WHERE WHAT IT READS IS OF BULK AT MOST 1048576: true; the input reads as it did. -/
def tilesCutsUptoRow : OpenClaim := { program := "ytfkgoljaeggbmab", sum := "0f7c2efe08825e994ab0cf0514c99dae09eb21edf80bcfadb4e981746ada7f77", func := "penumbra/penumbralaw38.TilesCuts", spec := "tilesCuts", unfollowed := true, recurses := true, apart := false, narrowed := true }
def TilesCutsUptoSaid : Prop := tilesCutsUptoRow.holds Try.pinned (OpenSpec.upto tilesCutsSpec)

/-- 'penumbralaw22.SceneParts', WHERE WHAT IT READS IS OF BULK AT MOST 1048576: true; the input reads as it did. -/
def scenePartsUptoRow : OpenClaim := { program := "ytfkgoljaeggbmab", sum := "0f7c2efe08825e994ab0cf0514c99dae09eb21edf80bcfadb4e981746ada7f77", func := "penumbra/penumbralaw22.SceneParts", spec := "sceneParts", inPlace := ["internal/reflectlite.TypeOf"], unfollowed := true, recurses := true, apart := false, narrowed := true }
def ScenePartsUptoSaid : Prop := scenePartsUptoRow.holds Try.pinned (OpenSpec.upto scenePartsSpec)

/-- 'penumbralaw47.BuildRight', WHERE WHAT IT READS IS OF BULK AT MOST 1048576: true; the input reads as it did. -/
def buildRightUptoRow : OpenClaim := { program := "ytfkgoljaeggbmab", sum := "0f7c2efe08825e994ab0cf0514c99dae09eb21edf80bcfadb4e981746ada7f77", func := "penumbra/penumbralaw47.BuildRight", spec := "buildRight", unfollowed := true, recurses := true, apart := false, narrowed := true }
def BuildRightUptoSaid : Prop := buildRightUptoRow.holds Try.pinned (OpenSpec.upto buildRightSpec)

end Rows
end Go.Proofs.Ytfkgoljaeggbmab
