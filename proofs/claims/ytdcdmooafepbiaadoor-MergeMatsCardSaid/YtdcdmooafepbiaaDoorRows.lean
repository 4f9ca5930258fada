/-
  NARROWER THAN 'FOR EVERY INPUT', by the rows' own cells (each row's printed sentence says how): MergeJoins: laid · MergeMats: laid · MergeDims: laid · MergeWithout: laid.
  DERIVED. THE GIVEN ROWS OF THIS SEAT. 4 by the template 'for every input the law returns true; each argument reads behind the call as it read before'; 0 by the template 'total and deterministic' (their statements: YtdcdmooafepbiaaDoorTotals.lean).
  GIVEN WITH THE SEED: the statements are not yours to turn. If you find one false, say at which input.
  Laid BY PROGRAM, IN A SANDBOX (cutbox-rows.mjs): the forced cells as the released guide's own fill.sh prints them over the translation e72318ebd7a3d3dc… (all of the seat's roots in one cut). By AI agents, Wed Nov 11 2026. No macro, syntax, notation, axiom, sorry.
-/
import Derived.Test.YtdcdmooafepbiaaDoorChecked
import GoSem.Claim
import GoSem.ClaimJoined
import GoSem.ClaimMapViews
import Derived.JoinedTies
import Derived.KernelRfl
namespace Go.Proofs.YtdcdmooafepbiaaDoor
/- THE CELL 'sum', in the pinned program and in every row, IS THE sha256 OF THE DUMP (.gsa) THAT YtdcdmooafepbiaaDoorProg.lean LOADS. Nothing in Lean hashes anything: it is a label: what it is worth is what the hold of that sum in a sandbox is worth. -/
noncomputable def Tryd.pinned : Pinned := { name := "ytdcdmooafepbiaadoor", sum := "e72318ebd7a3d3dc59956702f8bda8898481446383f259d1f156063d3710f40d", checked := Tryd.checked }
namespace Rows
def none {H : Type} : Left H := { results := [], args := [] }

/- WHAT THE LISTED PACKAGE-LEVEL VARIABLES READ AS WHEN THE CALL BEGINS. Each datum BY PROGRAM (the guide's laid-datum.mjs) off the statement by which the dump's own 'gosem.cut.vars' lays the variable. In a bare row this is a premise. The card (YtdcdmooafepbiaaDoorCards.lean) ties it to the program's text. -/
def laid_errors_errorType {H : Type} : DataW H := .iface "internal/reflectlite.rtype" (.agg [.ptr (.lit (.string [101, 114, 114, 111, 114]))])

/-- 'penumbralaw48.MergeJoins': WHATEVER THE INPUT: true; the input reads as it did. -/
def mergeJoinsSpec : ChangeSpec := { name := "mergeJoins", fn := fun _ => fun
  | [d1, d2] => { results := [.lit (.bool true)], args := [d1, d2] }
  | _ => none }
def mergeJoinsRow : OpenClaim := { program := "ytdcdmooafepbiaadoor", sum := "e72318ebd7a3d3dc59956702f8bda8898481446383f259d1f156063d3710f40d", func := "penumbra/penumbralaw48.MergeJoins", spec := "mergeJoins", inPlace := ["internal/reflectlite.TypeOf", "internal/reflectlite.ValueOf", "(internal/reflectlite.Value).Type", "(internal/reflectlite.Value).IsNil", "(internal/reflectlite.Value).Elem", "(internal/reflectlite.Value).Set"], unfollowed := true, recurses := true, named := ["errors.errorType"], apart := false, laid := [("errors.errorType", laid_errors_errorType)] }
def MergeJoinsSaid : Prop := mergeJoinsRow.holds Tryd.pinned (OpenSpec.ofChange mergeJoinsSpec)

/-- ITS FALSE NEIGHBOUR: 'it returns false'. Refute it at one input. -/
def mergeJoinsWrong : ChangeSpec := { name := "mergeJoins", fn := fun _ => fun
  | [d1, d2] => { results := [.lit (.bool false)], args := [d1, d2] }
  | _ => none }
def MergeJoinsWrongFalsely : Prop := mergeJoinsRow.holds Tryd.pinned (OpenSpec.ofChange mergeJoinsWrong)

/-- 'penumbralaw48.MergeMats': WHATEVER THE INPUT: true; the input reads as it did. -/
def mergeMatsSpec : ChangeSpec := { name := "mergeMats", fn := fun _ => fun
  | [d] => { results := [.lit (.bool true)], args := [d] }
  | _ => none }
def mergeMatsRow : OpenClaim := { program := "ytdcdmooafepbiaadoor", sum := "e72318ebd7a3d3dc59956702f8bda8898481446383f259d1f156063d3710f40d", func := "penumbra/penumbralaw48.MergeMats", spec := "mergeMats", inPlace := ["internal/reflectlite.TypeOf", "internal/reflectlite.ValueOf", "(internal/reflectlite.Value).Type", "(internal/reflectlite.Value).IsNil", "(internal/reflectlite.Value).Elem", "(internal/reflectlite.Value).Set"], unfollowed := true, recurses := true, named := ["errors.errorType"], apart := false, laid := [("errors.errorType", laid_errors_errorType)] }
def MergeMatsSaid : Prop := mergeMatsRow.holds Tryd.pinned (OpenSpec.ofChange mergeMatsSpec)

/-- ITS FALSE NEIGHBOUR: 'it returns false'. Refute it at one input. -/
def mergeMatsWrong : ChangeSpec := { name := "mergeMats", fn := fun _ => fun
  | [d] => { results := [.lit (.bool false)], args := [d] }
  | _ => none }
def MergeMatsWrongFalsely : Prop := mergeMatsRow.holds Tryd.pinned (OpenSpec.ofChange mergeMatsWrong)

/-- 'penumbralaw48.MergeDims': WHATEVER THE INPUT: true; the input reads as it did. -/
def mergeDimsSpec : ChangeSpec := { name := "mergeDims", fn := fun _ => fun
  | [d1, d2, d3] => { results := [.lit (.bool true)], args := [d1, d2, d3] }
  | _ => none }
def mergeDimsRow : OpenClaim := { program := "ytdcdmooafepbiaadoor", sum := "e72318ebd7a3d3dc59956702f8bda8898481446383f259d1f156063d3710f40d", func := "penumbra/penumbralaw48.MergeDims", spec := "mergeDims", inPlace := ["internal/reflectlite.TypeOf", "internal/reflectlite.ValueOf", "(internal/reflectlite.Value).Type", "(internal/reflectlite.Value).IsNil", "(internal/reflectlite.Value).Elem", "(internal/reflectlite.Value).Set"], unfollowed := true, recurses := true, named := ["errors.errorType"], apart := false, laid := [("errors.errorType", laid_errors_errorType)] }
def MergeDimsSaid : Prop := mergeDimsRow.holds Tryd.pinned (OpenSpec.ofChange mergeDimsSpec)

/-- ITS FALSE NEIGHBOUR: 'it returns false'. Refute it at one input. -/
def mergeDimsWrong : ChangeSpec := { name := "mergeDims", fn := fun _ => fun
  | [d1, d2, d3] => { results := [.lit (.bool false)], args := [d1, d2, d3] }
  | _ => none }
def MergeDimsWrongFalsely : Prop := mergeDimsRow.holds Tryd.pinned (OpenSpec.ofChange mergeDimsWrong)

/-- 'penumbralaw48.MergeWithout': WHATEVER THE INPUT: true; the input reads as it did. -/
def mergeWithoutSpec : ChangeSpec := { name := "mergeWithout", fn := fun _ => fun
  | [d1, d2, d3] => { results := [.lit (.bool true)], args := [d1, d2, d3] }
  | _ => none }
def mergeWithoutRow : OpenClaim := { program := "ytdcdmooafepbiaadoor", sum := "e72318ebd7a3d3dc59956702f8bda8898481446383f259d1f156063d3710f40d", func := "penumbra/penumbralaw48.MergeWithout", spec := "mergeWithout", inPlace := ["internal/reflectlite.TypeOf", "internal/reflectlite.ValueOf", "(internal/reflectlite.Value).Type", "(internal/reflectlite.Value).IsNil", "(internal/reflectlite.Value).Elem", "(internal/reflectlite.Value).Set"], unfollowed := true, recurses := true, named := ["errors.errorType"], apart := false, laid := [("errors.errorType", laid_errors_errorType)] }
def MergeWithoutSaid : Prop := mergeWithoutRow.holds Tryd.pinned (OpenSpec.ofChange mergeWithoutSpec)

/-- ITS FALSE NEIGHBOUR: 'it returns false'. Refute it at one input. -/
def mergeWithoutWrong : ChangeSpec := { name := "mergeWithout", fn := fun _ => fun
  | [d1, d2, d3] => { results := [.lit (.bool false)], args := [d1, d2, d3] }
  | _ => none }
def MergeWithoutWrongFalsely : Prop := mergeWithoutRow.holds Tryd.pinned (OpenSpec.ofChange mergeWithoutWrong)

/- THE SECOND FORM. 'bulk': how many values and letters a reading holds, each counted each time it is reached (what is shared counts as often as it is met; a slice's spare places count too). A statement '..UptoSaid' is the law's where the arguments, and the package variables that the reading takes, are together of bulk at most 1048576: NARROWER than '..Said'. Prove '..Said' where nothing that the law and all that it calls make is longer than what came in: it says more and counts as full. Else prove '..UptoSaid'. A law counts once. -/
mutual
def uptoBulk {H : Type} : DataW H → Nat
  | .lit (.string bytes) => bytes.length + 1
  | .lit _ => 1
  | .nil => 1
  | .ptr d => uptoBulk d + 1
  | .slice elems spare => uptoBulkAll elems + uptoBulkAll spare + 1
  | .agg parts => uptoBulkAll parts + 1
  | .iface _ d => uptoBulk d + 1
  | .map entries => uptoBulkEntries entries + 1
  | .held _ => 1
def uptoBulkAll {H : Type} : List (DataW H) → Nat
  | [] => 0
  | d :: r => uptoBulk d + uptoBulkAll r
def uptoBulkEntries {H : Type} : List (Lit × DataW H) → Nat
  | [] => 0
  | x :: r => uptoBulkEntry x + uptoBulkEntries r
def uptoBulkEntry {H : Type} : Lit × DataW H → Nat
  | (.string bytes, d) => bytes.length + uptoBulk d + 1
  | (_, d) => uptoBulk d + 1
 end
def uptoSmall : (H : Type) → List (DataW H) → Bool := fun _ ds => decide (uptoBulkAll ds ≤ 1048576)
def OpenSpec.upto (s : _root_.Go.ChangeSpec) : _root_.Go.OpenSpec := { _root_.Go.OpenSpec.ofChange s with cond := some uptoSmall }

/-- 'penumbralaw48.MergeJoins', WHERE WHAT IT READS IS OF BULK AT MOST 1048576: true; the input reads as it did. -/
def mergeJoinsUptoRow : OpenClaim := { program := "ytdcdmooafepbiaadoor", sum := "e72318ebd7a3d3dc59956702f8bda8898481446383f259d1f156063d3710f40d", func := "penumbra/penumbralaw48.MergeJoins", spec := "mergeJoins", inPlace := ["internal/reflectlite.TypeOf", "internal/reflectlite.ValueOf", "(internal/reflectlite.Value).Type", "(internal/reflectlite.Value).IsNil", "(internal/reflectlite.Value).Elem", "(internal/reflectlite.Value).Set"], unfollowed := true, recurses := true, named := ["errors.errorType"], apart := false, laid := [("errors.errorType", laid_errors_errorType)], narrowed := true }
def MergeJoinsUptoSaid : Prop := mergeJoinsUptoRow.holds Tryd.pinned (OpenSpec.upto mergeJoinsSpec)

/-- 'penumbralaw48.MergeMats', WHERE WHAT IT READS IS OF BULK AT MOST 1048576: true; the input reads as it did. -/
def mergeMatsUptoRow : OpenClaim := { program := "ytdcdmooafepbiaadoor", sum := "e72318ebd7a3d3dc59956702f8bda8898481446383f259d1f156063d3710f40d", func := "penumbra/penumbralaw48.MergeMats", spec := "mergeMats", inPlace := ["internal/reflectlite.TypeOf", "internal/reflectlite.ValueOf", "(internal/reflectlite.Value).Type", "(internal/reflectlite.Value).IsNil", "(internal/reflectlite.Value).Elem", "(internal/reflectlite.Value).Set"], unfollowed := true, recurses := true, named := ["errors.errorType"], apart := false, laid := [("errors.errorType", laid_errors_errorType)], narrowed := true }
def MergeMatsUptoSaid : Prop := mergeMatsUptoRow.holds Tryd.pinned (OpenSpec.upto mergeMatsSpec)

/-- 'penumbralaw48.MergeDims', WHERE WHAT IT READS IS OF BULK AT MOST 1048576: true; the input reads as it did. -/
def mergeDimsUptoRow : OpenClaim := { program := "ytdcdmooafepbiaadoor", sum := "e72318ebd7a3d3dc59956702f8bda8898481446383f259d1f156063d3710f40d", func := "penumbra/penumbralaw48.MergeDims", spec := "mergeDims", inPlace := ["internal/reflectlite.TypeOf", "internal/reflectlite.ValueOf", "(internal/reflectlite.Value).Type", "(internal/reflectlite.Value).IsNil", "(internal/reflectlite.Value).Elem", "(internal/reflectlite.Value).Set"], unfollowed := true, recurses := true, named := ["errors.errorType"], apart := false, laid := [("errors.errorType", laid_errors_errorType)], narrowed := true }
def MergeDimsUptoSaid : Prop := mergeDimsUptoRow.holds Tryd.pinned (OpenSpec.upto mergeDimsSpec)

/-- 'penumbralaw48.MergeWithout', WHERE WHAT IT READS IS OF BULK AT MOST 1048576: true; the input reads as it did. -/
def mergeWithoutUptoRow : OpenClaim := { program := "ytdcdmooafepbiaadoor", sum := "e72318ebd7a3d3dc59956702f8bda8898481446383f259d1f156063d3710f40d", func := "penumbra/penumbralaw48.MergeWithout", spec := "mergeWithout", inPlace := ["internal/reflectlite.TypeOf", "internal/reflectlite.ValueOf", "(internal/reflectlite.Value).Type", "(internal/reflectlite.Value).IsNil", "(internal/reflectlite.Value).Elem", "(internal/reflectlite.Value).Set"], unfollowed := true, recurses := true, named := ["errors.errorType"], apart := false, laid := [("errors.errorType", laid_errors_errorType)], narrowed := true }
def MergeWithoutUptoSaid : Prop := mergeWithoutUptoRow.holds Tryd.pinned (OpenSpec.upto mergeWithoutSpec)

end Rows
end Go.Proofs.YtdcdmooafepbiaaDoor
