/- For every input the law HitVisits returns true, and each argument reads behind the call as it read before: the program's text is told by a model (proved to be what the text does), and the model is true of all data. -/
import Derived.Test.YtncgifjccpngfaaGreatRows
import Derived.KernelRfl
import Derived.Test.YtncgifjccpngfaaGreatPenKit0
import Derived.Test.YtncgifjccpngfaaGreatPenKit1
import Derived.Test.YtncgifjccpngfaaGreatPenKit2
import Derived.Test.YtncgifjccpngfaaGreatPenKit3
import Derived.Test.YtncgifjccpngfaaGreatPenHitVisits4
import Derived.Test.YtncgifjccpngfaaGreatPenKit5
import Derived.Test.YtncgifjccpngfaaGreatPenHitVisits6
import Derived.Test.YtncgifjccpngfaaGreatPenHitVisits7
import Derived.Test.YtncgifjccpngfaaGreatPenKit8
import Derived.Test.YtncgifjccpngfaaGreatPenHitVisits9
namespace Go.Proofs.YtncgifjccpngfaaGreat.hitVisits
open Go Go.Proofs Go.Proofs.Pen

theorem own : ownKnob Tryz.prog.godebug = none := by kernel_rfl
theorem laidOut : laidOutB Tryz.prog = true := by kernel_rfl

theorem lifted (os : Os) (started : os.Started) (H : Type) (enc : TypeId × Value → H) :
    ReturnsInHanded {} Tryz.checked os 5 .any (Rows.hitVisitsSpec.pre6 enc Tryz.prog Tryz.f5 Rows.hitVisitsRow.domain false) (Rows.hitVisitsSpec.post enc Tryz.prog Tryz.f5 false true false false) :=
  law_lifted (C := Tryz.checked) (tb := 4) (tys := [(.sl (.st (.pair TV (.pair TV TV)))), (.st (.pair TV TV)), .bool]) (law := fun x => .opt (law13_HitVisits x) .ret) own started (by kernel_rfl) Tryz.func5
    (ChangeSpec.witness6 (enc := enc) (C := Tryz.checked) false ⟨#[], #[.slice none 0 0, .agg #[.float .f64 0, .float .f64 0, .float .f64 0, .float .f64 0, .float .f64 0, .float .f64 0], .bool false], []⟩ 8 (by kernel_rfl) (by kernel_rfl) (by kernel_rfl) (by kernel_rfl))
    laidOut (by kernel_rfl) (by kernel_rfl) (by kernel_rfl) rfl Tryz.underlying4 law13_HitVisits.ok
    (fun x hx => by
      have h : (law13_HitVisits.t x).run = some true := HitVisits_all x hx
      show (T.opt (law13_HitVisits.t x).run T.ret).run = some true
      rw [h]; rfl)
    rfl (by kernel_rfl) (fun ds h => by
      have h : ds.length = 3 := h
      match ds, h with
      | [_, _, _], _ => rfl)

theorem over : Rows.hitVisitsRow.holds Tryz.pinned (OpenSpec.ofChange Rows.hitVisitsSpec) :=
  OpenClaim.holds_of_wide 5 Tryz.f5 rfl rfl rfl rfl rfl rfl rfl ⟨rfl, rfl, rfl, rfl, rfl⟩ rfl rfl rfl rfl rfl (by kernel_rfl) Tryz.func5 (by kernel_rfl)
    (of_decide_eq_true (by kernel_rfl)) (by unfold Func.isWrapper; first | (rw [if_pos (by decide +kernel)]; kernel_rfl) | (rw [if_neg (by decide +kernel)]; exact ⟨rfl, rfl⟩))
    (fun os started H enc _ => lifted os started H enc)
end Go.Proofs.YtncgifjccpngfaaGreat.hitVisits
namespace Go.Proofs.YtncgifjccpngfaaGreat
theorem hitVisits_holds : Rows.HitVisitsSaid := hitVisits.over
#print axioms hitVisits_holds
end Go.Proofs.YtncgifjccpngfaaGreat
