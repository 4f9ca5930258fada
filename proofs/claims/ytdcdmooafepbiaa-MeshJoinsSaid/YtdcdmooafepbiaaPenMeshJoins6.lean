/- For every input the law MeshJoins returns true, and each argument reads behind the call as it read before: the program's text is told by a model (proved to be what the text does), and the model is true of all data. -/
import Derived.Test.YtdcdmooafepbiaaRows
import Derived.KernelRfl
import Derived.Test.YtdcdmooafepbiaaPenKit0
import Derived.Test.YtdcdmooafepbiaaPenKit1
import Derived.Test.YtdcdmooafepbiaaPenKit2
import Derived.Test.YtdcdmooafepbiaaPenKit3
import Derived.Test.YtdcdmooafepbiaaPenMeshJoins4
import Derived.Test.YtdcdmooafepbiaaPenMeshJoins5
namespace Go.Proofs.Ytdcdmooafepbiaa.meshJoins
open Go Go.Proofs Go.Proofs.Pen

theorem own : ownKnob Try.prog.godebug = none := by kernel_rfl
theorem laidOut : laidOutB Try.prog = true := by kernel_rfl

theorem lifted (os : Os) (started : os.Started) (H : Type) (enc : TypeId × Value → H) :
    ReturnsInHanded {} Try.checked os 7 .any (Rows.meshJoinsSpec.pre6 enc Try.prog Try.f7 Rows.meshJoinsRow.domain false) (Rows.meshJoinsSpec.post enc Try.prog Try.f7 false true false false) :=
  law_lifted (C := Try.checked) (tb := 4) (tys := [(.st (.pair (.sl (.st (.pair TI (.pair TI TI)))) (.sl (.st (.pair TI (.pair TI TI)))))), (.st (.pair (.sl (.st (.pair TI (.pair TI TI)))) (.sl (.st (.pair TI (.pair TI TI))))))]) (law := fun x => .opt (law45_MeshJoins x) .ret) own started (by kernel_rfl) Try.func7
    (ChangeSpec.witness6 (enc := enc) (C := Try.checked) false ⟨#[], #[.agg #[.slice none 0 0, .slice none 0 0], .agg #[.slice none 0 0, .slice none 0 0]], []⟩ 8 (by kernel_rfl) (by kernel_rfl) (by kernel_rfl) (by kernel_rfl))
    laidOut (by kernel_rfl) (by kernel_rfl) (by kernel_rfl) rfl Try.underlying4 law45_MeshJoins.ok
    (fun x hx => by
      have h : (law45_MeshJoins.t x).run = some true := MeshJoins_all x hx
      show (T.opt (law45_MeshJoins.t x).run T.ret).run = some true
      rw [h]; rfl)
    rfl (by kernel_rfl) (fun ds h => by
      have h : ds.length = 2 := h
      match ds, h with
      | [_, _], _ => rfl)

theorem over : Rows.meshJoinsRow.holds Try.pinned (OpenSpec.ofChange Rows.meshJoinsSpec) :=
  OpenClaim.holds_of_wide 7 Try.f7 rfl rfl rfl rfl rfl rfl rfl ⟨rfl, rfl, rfl, rfl, rfl⟩ rfl rfl rfl rfl rfl (by kernel_rfl) Try.func7 (by kernel_rfl)
    (of_decide_eq_true (by kernel_rfl)) (by unfold Func.isWrapper; first | (rw [if_pos (by decide +kernel)]; kernel_rfl) | (rw [if_neg (by decide +kernel)]; exact ⟨rfl, rfl⟩))
    (fun os started H enc _ => lifted os started H enc)
end Go.Proofs.Ytdcdmooafepbiaa.meshJoins
namespace Go.Proofs.Ytdcdmooafepbiaa
theorem meshJoins_holds : Rows.MeshJoinsSaid := meshJoins.over
#print axioms meshJoins_holds
end Go.Proofs.Ytdcdmooafepbiaa
