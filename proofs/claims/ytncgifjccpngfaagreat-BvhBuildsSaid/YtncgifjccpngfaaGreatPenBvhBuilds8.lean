/- For every input the law BvhBuilds returns true, and each argument reads behind the call as it read before: the program's text is told by a model (proved to be what the text does), and the model is true of all data. -/
import Derived.Test.YtncgifjccpngfaaGreatRows
import Derived.KernelRfl
import Derived.Test.YtncgifjccpngfaaGreatPenKit0
import Derived.Test.YtncgifjccpngfaaGreatPenKit1
import Derived.Test.YtncgifjccpngfaaGreatPenKit2
import Derived.Test.YtncgifjccpngfaaGreatPenKit3
import Derived.Test.YtncgifjccpngfaaGreatPenBvhBuilds4
import Derived.Test.YtncgifjccpngfaaGreatPenKit5
import Derived.Test.YtncgifjccpngfaaGreatPenBvhBuilds6
import Derived.Test.YtncgifjccpngfaaGreatPenBvhBuilds7
namespace Go.Proofs.YtncgifjccpngfaaGreat.bvhBuilds
open Go Go.Proofs Go.Proofs.Pen

theorem own : ownKnob Tryz.prog.godebug = none := by kernel_rfl
theorem laidOut : laidOutB Tryz.prog = true := by kernel_rfl

theorem lifted (os : Os) (started : os.Started) (H : Type) (enc : TypeId × Value → H) :
    ReturnsInHanded {} Tryz.checked os 3 .any (Rows.bvhBuildsSpec.pre6 enc Tryz.prog Tryz.f3 Rows.bvhBuildsRow.domain false) (Rows.bvhBuildsSpec.post enc Tryz.prog Tryz.f3 false true false false) :=
  law_lifted (C := Tryz.checked) (tb := 4) (tys := [(.sl (.st (.pair TV (.pair TV TV)))), .bool]) (law := fun x => .opt (law12_BvhBuilds x) .ret) own started (by kernel_rfl) Tryz.func3
    (ChangeSpec.witness6 (enc := enc) (C := Tryz.checked) false ⟨#[], #[.slice none 0 0, .bool false], []⟩ 8 (by kernel_rfl) (by kernel_rfl) (by kernel_rfl) (by kernel_rfl))
    laidOut (by kernel_rfl) (by kernel_rfl) (by kernel_rfl) rfl Tryz.underlying4 law12_BvhBuilds.ok
    (fun x hx => by
      have h : (law12_BvhBuilds.t x).run = some true := BvhBuilds_all x hx
      show (T.opt (law12_BvhBuilds.t x).run T.ret).run = some true
      rw [h]; rfl)
    rfl (by kernel_rfl) (fun ds h => by
      have h : ds.length = 2 := h
      match ds, h with
      | [_, _], _ => rfl)

theorem over : Rows.bvhBuildsRow.holds Tryz.pinned (OpenSpec.ofChange Rows.bvhBuildsSpec) :=
  OpenClaim.holds_of_wide 3 Tryz.f3 rfl rfl rfl rfl rfl rfl rfl ⟨rfl, rfl, rfl, rfl, rfl⟩ rfl rfl rfl rfl rfl (by kernel_rfl) Tryz.func3 (by kernel_rfl)
    (of_decide_eq_true (by kernel_rfl)) (by unfold Func.isWrapper; first | (rw [if_pos (by decide +kernel)]; kernel_rfl) | (rw [if_neg (by decide +kernel)]; exact ⟨rfl, rfl⟩))
    (fun os started H enc _ => lifted os started H enc)
end Go.Proofs.YtncgifjccpngfaaGreat.bvhBuilds
namespace Go.Proofs.YtncgifjccpngfaaGreat
theorem bvhBuilds_holds : Rows.BvhBuildsSaid := bvhBuilds.over
#print axioms bvhBuilds_holds
end Go.Proofs.YtncgifjccpngfaaGreat
