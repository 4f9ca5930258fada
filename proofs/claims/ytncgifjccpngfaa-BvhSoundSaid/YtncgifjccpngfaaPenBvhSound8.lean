/- For every input the law BvhSound returns true, and each argument reads behind the call as it read before: the program's text is told by a model (proved to be what the text does), and the model is true of all data. -/
import Derived.Test.YtncgifjccpngfaaRows
import Derived.KernelRfl
import Derived.Test.YtncgifjccpngfaaPenKit0
import Derived.Test.YtncgifjccpngfaaPenKit1
import Derived.Test.YtncgifjccpngfaaPenKit2
import Derived.Test.YtncgifjccpngfaaPenKit3
import Derived.Test.YtncgifjccpngfaaPenBvhSound4
import Derived.Test.YtncgifjccpngfaaPenKit5
import Derived.Test.YtncgifjccpngfaaPenBvhSound6
import Derived.Test.YtncgifjccpngfaaPenBvhSound7
namespace Go.Proofs.Ytncgifjccpngfaa.bvhSound
open Go Go.Proofs Go.Proofs.Pen

theorem own : ownKnob Try.prog.godebug = none := by kernel_rfl
theorem laidOut : laidOutB Try.prog = true := by kernel_rfl

theorem lifted (os : Os) (started : os.Started) (H : Type) (enc : TypeId × Value → H) :
    ReturnsInHanded {} Try.checked os 3 .any (Rows.bvhSoundSpec.pre6 enc Try.prog Try.f3 Rows.bvhSoundRow.domain false) (Rows.bvhSoundSpec.post enc Try.prog Try.f3 false true false false) :=
  law_lifted (C := Try.checked) (tb := 4) (tys := [(.sl (.st (.pair TV (.pair TV TV)))), .bool]) (law := fun x => .opt (law12_BvhSound x) .ret) own started (by kernel_rfl) Try.func3
    (ChangeSpec.witness6 (enc := enc) (C := Try.checked) false ⟨#[], #[.slice none 0 0, .bool false], []⟩ 8 (by kernel_rfl) (by kernel_rfl) (by kernel_rfl) (by kernel_rfl))
    laidOut (by kernel_rfl) (by kernel_rfl) (by kernel_rfl) rfl Try.underlying4 law12_BvhSound.ok
    (fun x hx => by
      have h : (law12_BvhSound.t x).run = some true := BvhSound_all x hx
      show (T.opt (law12_BvhSound.t x).run T.ret).run = some true
      rw [h]; rfl)
    rfl (by kernel_rfl) (fun ds h => by
      have h : ds.length = 2 := h
      match ds, h with
      | [_, _], _ => rfl)

theorem over : Rows.bvhSoundRow.holds Try.pinned (OpenSpec.ofChange Rows.bvhSoundSpec) :=
  OpenClaim.holds_of_wide 3 Try.f3 rfl rfl rfl rfl rfl rfl rfl ⟨rfl, rfl, rfl, rfl, rfl⟩ rfl rfl rfl rfl rfl (by kernel_rfl) Try.func3 (by kernel_rfl)
    (of_decide_eq_true (by kernel_rfl)) (by unfold Func.isWrapper; first | (rw [if_pos (by decide +kernel)]; kernel_rfl) | (rw [if_neg (by decide +kernel)]; exact ⟨rfl, rfl⟩))
    (fun os started H enc _ => lifted os started H enc)
end Go.Proofs.Ytncgifjccpngfaa.bvhSound
namespace Go.Proofs.Ytncgifjccpngfaa
theorem bvhSound_holds : Rows.BvhSoundSaid := bvhSound.over
#print axioms bvhSound_holds
end Go.Proofs.Ytncgifjccpngfaa
