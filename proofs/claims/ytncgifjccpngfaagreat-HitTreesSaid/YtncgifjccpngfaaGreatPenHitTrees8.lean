/- For every input the law HitTrees returns true, and each argument reads behind the call as it read before: the program's text is told by a model (proved to be what the text does), and the model is true of all data. -/
import Derived.Test.YtncgifjccpngfaaGreatRows
import Derived.KernelRfl
import Derived.Test.YtncgifjccpngfaaGreatPenKit0
import Derived.Test.YtncgifjccpngfaaGreatPenKit1
import Derived.Test.YtncgifjccpngfaaGreatPenKit2
import Derived.Test.YtncgifjccpngfaaGreatPenKit3
import Derived.Test.YtncgifjccpngfaaGreatPenHitTrees4
import Derived.Test.YtncgifjccpngfaaGreatPenKit5
import Derived.Test.YtncgifjccpngfaaGreatPenHitTrees6
import Derived.Test.YtncgifjccpngfaaGreatPenHitTrees7
namespace Go.Proofs.YtncgifjccpngfaaGreat.hitTrees
open Go Go.Proofs Go.Proofs.Pen

theorem own : ownKnob Tryz.prog.godebug = none := by kernel_rfl
theorem laidOut : laidOutB Tryz.prog = true := by kernel_rfl

theorem lifted (os : Os) (started : os.Started) (H : Type) (enc : TypeId × Value → H) :
    ReturnsInHanded {} Tryz.checked os 4 .any (Rows.hitTreesSpec.pre6 enc Tryz.prog Tryz.f4 Rows.hitTreesRow.domain false) (Rows.hitTreesSpec.post enc Tryz.prog Tryz.f4 false true false false) :=
  law_lifted (C := Tryz.checked) (tb := 4) (tys := [(.st (.pair (.sl (.st (.pair TV (.pair TV TV)))) (.pair (.st (.pair TV TV)) (.pair .flt (.sl TI)))))]) (law := fun x => .opt (law13_HitTrees x) .ret) own started (by kernel_rfl) Tryz.func4
    (ChangeSpec.witness6 (enc := enc) (C := Tryz.checked) false ⟨#[], #[.agg #[.slice none 0 0, .float .f64 0, .float .f64 0, .float .f64 0, .float .f64 0, .float .f64 0, .float .f64 0, .float .f64 0, .slice none 0 0]], []⟩ 8 (by kernel_rfl) (by kernel_rfl) (by kernel_rfl) (by kernel_rfl))
    laidOut (by kernel_rfl) (by kernel_rfl) (by kernel_rfl) rfl Tryz.underlying4 law13_HitTrees.ok
    (fun x hx => by
      have h : (law13_HitTrees.t x).run = some true := HitTrees_all x hx
      show (T.opt (law13_HitTrees.t x).run T.ret).run = some true
      rw [h]; rfl)
    rfl (by kernel_rfl) (fun ds h => by
      have h : ds.length = 1 := h
      match ds, h with
      | [_], _ => rfl)

theorem over : Rows.hitTreesRow.holds Tryz.pinned (OpenSpec.ofChange Rows.hitTreesSpec) :=
  OpenClaim.holds_of_wide 4 Tryz.f4 rfl rfl rfl rfl rfl rfl rfl ⟨rfl, rfl, rfl, rfl, rfl⟩ rfl rfl rfl rfl rfl (by kernel_rfl) Tryz.func4 (by kernel_rfl)
    (of_decide_eq_true (by kernel_rfl)) (by unfold Func.isWrapper; first | (rw [if_pos (by decide +kernel)]; kernel_rfl) | (rw [if_neg (by decide +kernel)]; exact ⟨rfl, rfl⟩))
    (fun os started H enc _ => lifted os started H enc)
end Go.Proofs.YtncgifjccpngfaaGreat.hitTrees
namespace Go.Proofs.YtncgifjccpngfaaGreat
theorem hitTrees_holds : Rows.HitTreesSaid := hitTrees.over
#print axioms hitTrees_holds
end Go.Proofs.YtncgifjccpngfaaGreat
