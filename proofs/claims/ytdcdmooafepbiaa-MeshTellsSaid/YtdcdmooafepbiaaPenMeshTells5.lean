/- For every input the law MeshTells returns true, and each argument reads behind the call as it read before: the program's text is told by a model (proved to be what the text does), and the model is true of all data. -/
import Derived.Test.YtdcdmooafepbiaaRows
import Derived.KernelRfl
import Derived.Test.YtdcdmooafepbiaaPenKit0
import Derived.Test.YtdcdmooafepbiaaPenKit1
import Derived.Test.YtdcdmooafepbiaaPenKit2
import Derived.Test.YtdcdmooafepbiaaPenKit3
import Derived.Test.YtdcdmooafepbiaaPenMeshTells4
namespace Go.Proofs.Ytdcdmooafepbiaa.meshTells
open Go Go.Proofs Go.Proofs.Pen

theorem own : ownKnob Try.prog.godebug = none := by kernel_rfl
theorem laidOut : laidOutB Try.prog = true := by kernel_rfl

theorem lifted (os : Os) (started : os.Started) (H : Type) (enc : TypeId × Value → H) :
    ReturnsInHanded {} Try.checked os 6 .any (Rows.meshTellsSpec.pre6 enc Try.prog Try.f6 Rows.meshTellsRow.domain false) (Rows.meshTellsSpec.post enc Try.prog Try.f6 false true false false) :=
  law_lifted (C := Try.checked) (tb := 4) (tys := [(.st (.pair (.sl (.st (.pair TI (.pair TI TI)))) (.sl (.st (.pair TI (.pair TI TI)))))), TI]) (law := fun x => .opt (law45_MeshTells x) .ret) own started (by kernel_rfl) Try.func6
    (ChangeSpec.witness6 (enc := enc) (C := Try.checked) false ⟨#[], #[.agg #[.slice none 0 0, .slice none 0 0], .int .i64 0], []⟩ 8 (by kernel_rfl) (by kernel_rfl) (by kernel_rfl) (by kernel_rfl))
    laidOut (by kernel_rfl) (by kernel_rfl) (by kernel_rfl) rfl Try.underlying4 law45_MeshTells.ok
    (fun x hx => by
      have h : (law45_MeshTells.t x).run = some true := MeshTells_all x hx
      show (T.opt (law45_MeshTells.t x).run T.ret).run = some true
      rw [h]; rfl)
    rfl (by kernel_rfl) (fun ds h => by
      have h : ds.length = 2 := h
      match ds, h with
      | [_, _], _ => rfl)

theorem over : Rows.meshTellsRow.holds Try.pinned (OpenSpec.ofChange Rows.meshTellsSpec) :=
  OpenClaim.holds_of_wide 6 Try.f6 rfl rfl rfl rfl rfl rfl rfl ⟨rfl, rfl, rfl, rfl, rfl⟩ rfl rfl rfl rfl rfl (by kernel_rfl) Try.func6 (by kernel_rfl)
    (of_decide_eq_true (by kernel_rfl)) (by unfold Func.isWrapper; first | (rw [if_pos (by decide +kernel)]; kernel_rfl) | (rw [if_neg (by decide +kernel)]; exact ⟨rfl, rfl⟩))
    (fun os started H enc _ => lifted os started H enc)
end Go.Proofs.Ytdcdmooafepbiaa.meshTells
namespace Go.Proofs.Ytdcdmooafepbiaa
theorem meshTells_holds : Rows.MeshTellsSaid := meshTells.over
#print axioms meshTells_holds
end Go.Proofs.Ytdcdmooafepbiaa
