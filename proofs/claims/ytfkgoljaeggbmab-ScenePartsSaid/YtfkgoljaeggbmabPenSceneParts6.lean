/- For every input the law SceneParts returns true, and each argument reads behind the call as it read before: the program's text is told by a model (proved to be what the text does), and the model is true of all data. -/
import Derived.Test.YtfkgoljaeggbmabRows
import Derived.KernelRfl
import Derived.Test.YtfkgoljaeggbmabPenKit0
import Derived.Test.YtfkgoljaeggbmabPenKit1
import Derived.Test.YtfkgoljaeggbmabPenKit2
import Derived.Test.YtfkgoljaeggbmabPenSceneParts3
import Derived.Test.YtfkgoljaeggbmabPenKit4
import Derived.Test.YtfkgoljaeggbmabPenSceneParts5
namespace Go.Proofs.Ytfkgoljaeggbmab.sceneParts
open Go Go.Proofs Go.Proofs.Pen

theorem own : ownKnob Try.prog.godebug = none := by kernel_rfl
theorem laidOut : laidOutB Try.prog = true := by kernel_rfl

theorem lifted (os : Os) (started : os.Started) (H : Type) (enc : TypeId × Value → H) :
    ReturnsInHanded {} Try.checked os 8 .any (Rows.scenePartsSpec.pre6 enc Try.prog Try.f8 Rows.scenePartsRow.domain false) (Rows.scenePartsSpec.post enc Try.prog Try.f8 false true false false) :=
  law_lifted (C := Try.checked) (tb := 4) (tys := [(.st (.pair (.sl (.st (.pair (.st (.pair TI (.pair TI TI))) (.pair (.st (.pair TI (.pair TI TI))) TI)))) (.pair (.sl (.st (.pair (.st (.pair TI (.pair TI TI))) (.pair (.st (.pair TI (.pair TI TI))) (.pair (.st (.pair TI (.pair TI TI))) TI))))) (.pair (.sl (.st (.pair TI (.st (.pair TI (.pair TI TI)))))) (.pair TI (.pair (.sl (.st (.pair TI (.pair TI TI)))) (.pair (.st (.pair (.st (.pair TI (.pair TI TI))) (.pair (.st (.pair TI (.pair TI TI))) (.pair (.st (.pair TI (.pair TI TI))) (.pair TI (.pair TI TI)))))) (.pair TI TI))))))))]) (law := fun x => .opt (law22_SceneParts x) .ret) own started (by kernel_rfl) Try.func8
    (ChangeSpec.witness6 (enc := enc) (C := Try.checked) false ⟨#[], #[.agg #[.slice none 0 0, .slice none 0 0, .slice none 0 0, .int .i64 0, .slice none 0 0, .int .i64 0, .int .i64 0, .int .i64 0, .int .i64 0, .int .i64 0, .int .i64 0, .int .i64 0, .int .i64 0, .int .i64 0, .int .i64 0, .int .i64 0, .int .i64 0, .int .i64 0, .int .i64 0]], []⟩ 8 (by kernel_rfl) (by kernel_rfl) (by kernel_rfl) (by kernel_rfl))
    laidOut (by kernel_rfl) (by kernel_rfl) (by kernel_rfl) rfl Try.underlying4 law22_SceneParts.ok
    (fun x hx => by
      have h : (law22_SceneParts.t x).run = some true := SceneParts_all x hx
      show (T.opt (law22_SceneParts.t x).run T.ret).run = some true
      rw [h]; rfl)
    rfl (fun ds h => by
      have h : ds.length = 1 := h
      match ds, h with
      | [_], _ => rfl)

theorem over : Rows.scenePartsRow.holds Try.pinned (OpenSpec.ofChange Rows.scenePartsSpec) :=
  OpenClaim.holds_of_wide 8 Try.f8 rfl rfl rfl rfl rfl rfl rfl ⟨rfl, rfl, rfl, rfl, rfl⟩ rfl rfl rfl rfl rfl (by kernel_rfl) Try.func8 (by kernel_rfl)
    (of_decide_eq_true (by kernel_rfl)) (by unfold Func.isWrapper; first | (rw [if_pos (by decide +kernel)]; kernel_rfl) | (rw [if_neg (by decide +kernel)]; exact ⟨rfl, rfl⟩))
    (fun os started H enc _ => lifted os started H enc)
end Go.Proofs.Ytfkgoljaeggbmab.sceneParts
namespace Go.Proofs.Ytfkgoljaeggbmab
theorem sceneParts_holds : Rows.ScenePartsSaid := sceneParts.over
#print axioms sceneParts_holds
end Go.Proofs.Ytfkgoljaeggbmab
