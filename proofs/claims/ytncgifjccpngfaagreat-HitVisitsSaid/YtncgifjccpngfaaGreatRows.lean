/-
  No cell of these rows narrows 'for every input' (looked for: loops, veiled, ifaces, maps, wideKeys, modest, calm, conditions, laid).
  DERIVED. THE GIVEN ROWS OF THIS SEAT. 5 by the template 'for every input the law returns true; each argument reads behind the call as it read before'; 0 by the template 'total and deterministic' (their statements: YtncgifjccpngfaaGreatTotals.lean).
  GIVEN WITH THE SEED: the statements are not yours to turn. If you find one false, say at which input.
  Laid BY PROGRAM, IN A SANDBOX (cutbox-rows.mjs): the forced cells as the released guide's own fill.sh prints them over the translation c83e4621c35b240b… (all of the seat's roots in one cut). By AI agents, Wed Nov 11 2026. No macro, syntax, notation, axiom, sorry.
-/
import Derived.Test.YtncgifjccpngfaaGreatChecked
import GoSem.Claim
import GoSem.ClaimJoined
import GoSem.ClaimMapViews
import Derived.JoinedTies
import Derived.KernelRfl
namespace Go.Proofs.YtncgifjccpngfaaGreat
/- THE CELL 'sum', in the pinned program and in every row, IS THE sha256 OF THE DUMP (.gsa) THAT YtncgifjccpngfaaGreatProg.lean LOADS. Nothing in Lean hashes anything: it is a label: what it is worth is what the hold of that sum in a sandbox is worth. -/
noncomputable def Tryz.pinned : Pinned := { name := "ytncgifjccpngfaagreat", sum := "c83e4621c35b240bbf26a55ad38bc0221a201c32f842578a82029ba398276d24", checked := Tryz.checked }
namespace Rows
def none {H : Type} : Left H := { results := [], args := [] }

/-- 'penumbralaw12.BvhBuilds': WHATEVER THE INPUT: true; the input reads as it did. -/
def bvhBuildsSpec : ChangeSpec := { name := "bvhBuilds", fn := fun _ => fun
  | [d1, d2] => { results := [.lit (.bool true)], args := [d1, d2] }
  | _ => none }
def bvhBuildsRow : OpenClaim := { program := "ytncgifjccpngfaagreat", sum := "c83e4621c35b240bbf26a55ad38bc0221a201c32f842578a82029ba398276d24", func := "penumbra/penumbralaw12.BvhBuilds", spec := "bvhBuilds", inPlace := ["math.Float64frombits"], unfollowed := true, recurses := true, apart := false }
def BvhBuildsSaid : Prop := bvhBuildsRow.holds Tryz.pinned (OpenSpec.ofChange bvhBuildsSpec)

/-- ITS FALSE NEIGHBOUR: 'it returns false'. Refute it at one input. -/
def bvhBuildsWrong : ChangeSpec := { name := "bvhBuilds", fn := fun _ => fun
  | [d1, d2] => { results := [.lit (.bool false)], args := [d1, d2] }
  | _ => none }
def BvhBuildsWrongFalsely : Prop := bvhBuildsRow.holds Tryz.pinned (OpenSpec.ofChange bvhBuildsWrong)

/-- 'penumbralaw13.HitTrees': WHATEVER THE INPUT: true; the input reads as it did. -/
def hitTreesSpec : ChangeSpec := { name := "hitTrees", fn := fun _ => fun
  | [d] => { results := [.lit (.bool true)], args := [d] }
  | _ => none }
def hitTreesRow : OpenClaim := { program := "ytncgifjccpngfaagreat", sum := "c83e4621c35b240bbf26a55ad38bc0221a201c32f842578a82029ba398276d24", func := "penumbra/penumbralaw13.HitTrees", spec := "hitTrees", inPlace := ["math.Float64frombits"], unfollowed := true, recurses := true, apart := false }
def HitTreesSaid : Prop := hitTreesRow.holds Tryz.pinned (OpenSpec.ofChange hitTreesSpec)

/-- ITS FALSE NEIGHBOUR: 'it returns false'. Refute it at one input. -/
def hitTreesWrong : ChangeSpec := { name := "hitTrees", fn := fun _ => fun
  | [d] => { results := [.lit (.bool false)], args := [d] }
  | _ => none }
def HitTreesWrongFalsely : Prop := hitTreesRow.holds Tryz.pinned (OpenSpec.ofChange hitTreesWrong)

/-- 'penumbralaw13.HitVisits': WHATEVER THE INPUT: true; the input reads as it did. -/
def hitVisitsSpec : ChangeSpec := { name := "hitVisits", fn := fun _ => fun
  | [d1, d2, d3] => { results := [.lit (.bool true)], args := [d1, d2, d3] }
  | _ => none }
def hitVisitsRow : OpenClaim := { program := "ytncgifjccpngfaagreat", sum := "c83e4621c35b240bbf26a55ad38bc0221a201c32f842578a82029ba398276d24", func := "penumbra/penumbralaw13.HitVisits", spec := "hitVisits", inPlace := ["math.Float64frombits"], unfollowed := true, recurses := true, apart := false }
def HitVisitsSaid : Prop := hitVisitsRow.holds Tryz.pinned (OpenSpec.ofChange hitVisitsSpec)

/-- ITS FALSE NEIGHBOUR: 'it returns false'. Refute it at one input. -/
def hitVisitsWrong : ChangeSpec := { name := "hitVisits", fn := fun _ => fun
  | [d1, d2, d3] => { results := [.lit (.bool false)], args := [d1, d2, d3] }
  | _ => none }
def HitVisitsWrongFalsely : Prop := hitVisitsRow.holds Tryz.pinned (OpenSpec.ofChange hitVisitsWrong)

/-- 'penumbralaw13.HitScans': WHATEVER THE INPUT: true; the input reads as it did. -/
def hitScansSpec : ChangeSpec := { name := "hitScans", fn := fun _ => fun
  | [d] => { results := [.lit (.bool true)], args := [d] }
  | _ => none }
def hitScansRow : OpenClaim := { program := "ytncgifjccpngfaagreat", sum := "c83e4621c35b240bbf26a55ad38bc0221a201c32f842578a82029ba398276d24", func := "penumbra/penumbralaw13.HitScans", spec := "hitScans", inPlace := ["math.Float64frombits"], unfollowed := true, recurses := true, apart := false }
def HitScansSaid : Prop := hitScansRow.holds Tryz.pinned (OpenSpec.ofChange hitScansSpec)

/-- ITS FALSE NEIGHBOUR: 'it returns false'. Refute it at one input. -/
def hitScansWrong : ChangeSpec := { name := "hitScans", fn := fun _ => fun
  | [d] => { results := [.lit (.bool false)], args := [d] }
  | _ => none }
def HitScansWrongFalsely : Prop := hitScansRow.holds Tryz.pinned (OpenSpec.ofChange hitScansWrong)

/-- 'penumbralaw22.SceneExact': WHATEVER THE INPUT: true; the input reads as it did. -/
def sceneExactSpec : ChangeSpec := { name := "sceneExact", fn := fun _ => fun
  | [d] => { results := [.lit (.bool true)], args := [d] }
  | _ => none }
def sceneExactRow : OpenClaim := { program := "ytncgifjccpngfaagreat", sum := "c83e4621c35b240bbf26a55ad38bc0221a201c32f842578a82029ba398276d24", func := "penumbra/penumbralaw22.SceneExact", spec := "sceneExact", inPlace := ["internal/reflectlite.TypeOf", "math.sqrt", "math.Float64frombits"], unfollowed := true, recurses := true, apart := false }
def SceneExactSaid : Prop := sceneExactRow.holds Tryz.pinned (OpenSpec.ofChange sceneExactSpec)

/-- ITS FALSE NEIGHBOUR: 'it returns false'. Refute it at one input. -/
def sceneExactWrong : ChangeSpec := { name := "sceneExact", fn := fun _ => fun
  | [d] => { results := [.lit (.bool false)], args := [d] }
  | _ => none }
def SceneExactWrongFalsely : Prop := sceneExactRow.holds Tryz.pinned (OpenSpec.ofChange sceneExactWrong)

/- THE SECOND FORM. 'bulk': how many values and letters a reading holds, each counted each time it is reached (what is shared counts as often as it is met; a slice's spare places count too). A statement '..UptoSaid' is the law's where the arguments, and the package variables that the reading takes, are together of bulk at most 1048576: NARROWER than '..Said'. Prove '..Said' where nothing that the law and all that it calls make is longer than what came in: it says more and counts as full. Else prove '..UptoSaid'. A law counts once. -/
mutual
def uptoBulk {H : Type} : DataW H → Nat
  | .lit (.string bytes) => bytes.length + 1
  | .lit _ => 1
  | .nil => 1
  | .ptr d => uptoBulk d + 1
  | .slice elems spare => uptoBulkAll elems + uptoBulkAll spare + 1
  | .agg parts => uptoBulkAll parts + 1
  | .iface _ d => uptoBulk d + 1
  | .map entries => uptoBulkEntries entries + 1
  | .held _ => 1
def uptoBulkAll {H : Type} : List (DataW H) → Nat
  | [] => 0
  | d :: r => uptoBulk d + uptoBulkAll r
def uptoBulkEntries {H : Type} : List (Lit × DataW H) → Nat
  | [] => 0
  | x :: r => uptoBulkEntry x + uptoBulkEntries r
def uptoBulkEntry {H : Type} : Lit × DataW H → Nat
  | (.string bytes, d) => bytes.length + uptoBulk d + 1
  | (_, d) => uptoBulk d + 1
 end
def uptoSmall : (H : Type) → List (DataW H) → Bool := fun _ ds => decide (uptoBulkAll ds ≤ 1048576)
def OpenSpec.upto (s : _root_.Go.ChangeSpec) : _root_.Go.OpenSpec := { _root_.Go.OpenSpec.ofChange s with cond := some uptoSmall }

/-- 'penumbralaw12.BvhBuilds', WHERE WHAT IT READS IS OF BULK AT MOST 1048576: true; the input reads as it did. -/
def bvhBuildsUptoRow : OpenClaim := { program := "ytncgifjccpngfaagreat", sum := "c83e4621c35b240bbf26a55ad38bc0221a201c32f842578a82029ba398276d24", func := "penumbra/penumbralaw12.BvhBuilds", spec := "bvhBuilds", inPlace := ["math.Float64frombits"], unfollowed := true, recurses := true, apart := false, narrowed := true }
def BvhBuildsUptoSaid : Prop := bvhBuildsUptoRow.holds Tryz.pinned (OpenSpec.upto bvhBuildsSpec)

/-- 'penumbralaw13.HitTrees', WHERE WHAT IT READS IS OF BULK AT MOST 1048576: true; the input reads as it did. -/
def hitTreesUptoRow : OpenClaim := { program := "ytncgifjccpngfaagreat", sum := "c83e4621c35b240bbf26a55ad38bc0221a201c32f842578a82029ba398276d24", func := "penumbra/penumbralaw13.HitTrees", spec := "hitTrees", inPlace := ["math.Float64frombits"], unfollowed := true, recurses := true, apart := false, narrowed := true }
def HitTreesUptoSaid : Prop := hitTreesUptoRow.holds Tryz.pinned (OpenSpec.upto hitTreesSpec)

/-- 'penumbralaw13.HitVisits', WHERE WHAT IT READS IS OF BULK AT MOST 1048576: true; the input reads as it did. -/
def hitVisitsUptoRow : OpenClaim := { program := "ytncgifjccpngfaagreat", sum := "c83e4621c35b240bbf26a55ad38bc0221a201c32f842578a82029ba398276d24", func := "penumbra/penumbralaw13.HitVisits", spec := "hitVisits", inPlace := ["math.Float64frombits"], unfollowed := true, recurses := true, apart := false, narrowed := true }
def HitVisitsUptoSaid : Prop := hitVisitsUptoRow.holds Tryz.pinned (OpenSpec.upto hitVisitsSpec)

/-- 'penumbralaw13.HitScans', WHERE WHAT IT READS IS OF BULK AT MOST 1048576: true; the input reads as it did. -/
def hitScansUptoRow : OpenClaim := { program := "ytncgifjccpngfaagreat", sum := "c83e4621c35b240bbf26a55ad38bc0221a201c32f842578a82029ba398276d24", func := "penumbra/penumbralaw13.HitScans", spec := "hitScans", inPlace := ["math.Float64frombits"], unfollowed := true, recurses := true, apart := false, narrowed := true }
def HitScansUptoSaid : Prop := hitScansUptoRow.holds Tryz.pinned (OpenSpec.upto hitScansSpec)

/-- 'penumbralaw22.SceneExact', WHERE WHAT IT READS IS OF BULK AT MOST 1048576: true; the input reads as it did. -/
def sceneExactUptoRow : OpenClaim := { program := "ytncgifjccpngfaagreat", sum := "c83e4621c35b240bbf26a55ad38bc0221a201c32f842578a82029ba398276d24", func := "penumbra/penumbralaw22.SceneExact", spec := "sceneExact", inPlace := ["internal/reflectlite.TypeOf", "math.sqrt", "math.Float64frombits"], unfollowed := true, recurses := true, apart := false, narrowed := true }
def SceneExactUptoSaid : Prop := sceneExactUptoRow.holds Tryz.pinned (OpenSpec.upto sceneExactSpec)

end Rows
end Go.Proofs.YtncgifjccpngfaaGreat
