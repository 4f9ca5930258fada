/- For every input the law SceneChecks returns true, and each argument reads behind the call as it read before: the program's text is told by a model (proved to be what the text does), and the model is true of all data; the listed variable is tied to the program's text. -/
import Derived.Test.YtfkgoljaeggbmabDoorTie
import Derived.Test.YtfkgoljaeggbmabDoorCards
import Derived.SevenTiedAt
import Derived.KernelRfl
import Derived.Test.YtfkgoljaeggbmabDoorPenKit0
import Derived.Test.YtfkgoljaeggbmabDoorPenKit1
import Derived.Test.YtfkgoljaeggbmabDoorPenKit2
import Derived.Test.YtfkgoljaeggbmabDoorPenSceneChecks3
import Derived.Test.YtfkgoljaeggbmabDoorPenKit4
import Derived.Test.YtfkgoljaeggbmabDoorPenSceneChecks5
import Derived.Test.YtfkgoljaeggbmabDoorPenSceneChecks6
namespace Go.Proofs.YtfkgoljaeggbmabDoor.SceneChecks
open Go Go.Proofs Go.Proofs.Pen

theorem own : ownKnob Tryd.prog.godebug = none := by kernel_rfl
theorem laidOut : laidOutB Tryd.prog = true := by kernel_rfl

theorem lifted (os : Os) (started : os.Started) (H : Type) (enc : TypeId × Value → H) :
    ReturnsInHanded {} Tryd.checked os 6 .any (fun w args => (Rows.sceneChecksSpec.pre enc Tryd.prog Tryd.f6 Rows.sceneChecksRow.domain false w args ∧ laidMetH Tryd.prog doorL w) ∧ sizedMet enc Tryd.prog Tryd.f6 (OpenSpec.ofChange Rows.sceneChecksSpec) false w args) (Rows.sceneChecksSpec.post enc Tryd.prog Tryd.f6 false true false false) :=
  law_lifted_laid (C := Tryd.checked) (L := doorL) (tb := 4) (tys := [(.st (.pair (.sl (.st (.pair (.st (.pair TI (.pair TI TI))) (.pair (.st (.pair TI (.pair TI TI))) TI)))) (.pair (.sl (.st (.pair (.st (.pair TI (.pair TI TI))) (.pair (.st (.pair TI (.pair TI TI))) (.pair (.st (.pair TI (.pair TI TI))) TI))))) (.pair (.sl (.st (.pair TI (.st (.pair TI (.pair TI TI)))))) (.pair TI (.pair (.sl (.st (.pair TI (.pair TI TI)))) (.pair (.st (.pair (.st (.pair TI (.pair TI TI))) (.pair (.st (.pair TI (.pair TI TI))) (.pair (.st (.pair TI (.pair TI TI))) (.pair TI (.pair TI TI)))))) (.pair TI TI))))))))]) (law := fun x => .opt (law22_SceneChecks x) .ret) own started (by kernel_rfl) Tryd.func6
    (ChangeSpec.witness_at (enc := enc) (C := Tryd.checked) (os := os) (X := fun w _ => laidMetH Tryd.prog doorL w) false (doorWorld os) #[.agg #[.slice none 0 0, .slice none 0 0, .slice none 0 0, .int .i64 0, .slice none 0 0, .int .i64 0, .int .i64 0, .int .i64 0, .int .i64 0, .int .i64 0, .int .i64 0, .int .i64 0, .int .i64 0, .int .i64 0, .int .i64 0, .int .i64 0, .int .i64 0, .int .i64 0, .int .i64 0]] 8 rfl (by kernel_rfl) (by kernel_rfl) (by kernel_rfl) (by kernel_rfl) (by kernel_rfl) (doorWorld_met os _))
    laidOut (by kernel_rfl) (by kernel_rfl) (by kernel_rfl) rfl Tryd.underlying4 law22_SceneChecks.ok
    (fun x hx => by
      have h : (law22_SceneChecks.t x).run = some true := sceneChecks_plain x hx
      show (T.opt (law22_SceneChecks.t x).run T.ret).run = some true
      rw [h]; rfl)
    rfl door_glob (fun ds h => by
      have h : ds.length = 1 := h
      match ds, h with
      | [_], _ => rfl)

theorem over : Rows.sceneChecksRow.holds Tryd.pinned (OpenSpec.ofChange Rows.sceneChecksSpec) :=
  OpenClaim.holds_of_wide 6 Tryd.f6 rfl rfl rfl rfl rfl rfl rfl ⟨rfl, rfl, rfl, rfl, rfl⟩ rfl rfl rfl rfl rfl (by kernel_rfl) Tryd.func6 (by kernel_rfl)
    (of_decide_eq_true (by kernel_rfl)) (by unfold Func.isWrapper; first | (rw [if_pos (by decide +kernel)]; kernel_rfl) | (rw [if_neg (by decide +kernel)]; exact ⟨rfl, rfl⟩))
    (fun os started H enc _ => lifted os started H enc)

theorem plainTypes : (Tryd.f6.params.toList.all fun t => !(Tryd.prog.wantsStandIn t)) = true := by kernel_rfl

theorem card : Claim7.holds Tryd.pinned (.plain (OpenSpec.ofChange Rows.sceneChecksSpec)) Rows.sceneChecksCard :=
  Claim7.holds_tied_plain_at .later [] [.handle] true (true, "d844361a5e218dc9ec4ad5c15381044ba0dbd551b99cc61eb032d968dd7b3b05") true
    over (fun _ h => by cases h) (by kernel_rfl) (fun _ h => by cases h) sceneChecks_row_tie rfl ⟨rfl, rfl⟩ (by kernel_rfl) rfl
    (fun f fn hf hfn => by
      obtain rfl : f = 6 := Option.some.inj ((show Tryd.prog.funcNamed "penumbra/penumbralaw22.SceneChecks" = some 6 by kernel_rfl).symm.trans hf) |>.symm
      obtain rfl : fn = Tryd.f6 := (Option.some.inj (Tryd.func6.symm.trans hfn)).symm
      exact ⟨by kernel_rfl, fun j t ht => by
        have h := List.all_eq_true.1 plainTypes t (List.mem_of_getElem? (by rw [Array.getElem?_toList]; exact ht))
        have h2 : Tryd.prog.wantsStandIn t = false := by simpa using h
        exact h2⟩)
    (by kernel_rfl)
end Go.Proofs.YtfkgoljaeggbmabDoor.SceneChecks
namespace Go.Proofs.YtfkgoljaeggbmabDoor
theorem sceneChecks_holds : Rows.SceneChecksCardSaid := SceneChecks.card
#print axioms sceneChecks_holds
end Go.Proofs.YtfkgoljaeggbmabDoor
