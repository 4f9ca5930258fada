/- For every input the law BvhNone returns true, and each argument reads behind the call as it read before: the program's text is told by a model (proved to be what the text does), and the model is true of all data. -/
import Derived.Test.YtncgifjccpngfaaRows
import Derived.KernelRfl
import Derived.Test.YtncgifjccpngfaaPenKit0
import Derived.Test.YtncgifjccpngfaaPenKit1
import Derived.Test.YtncgifjccpngfaaPenKit2
import Derived.Test.YtncgifjccpngfaaPenKit3
import Derived.Test.YtncgifjccpngfaaPenBvhNone4
namespace Go.Proofs.Ytncgifjccpngfaa.bvhNone
open Go Go.Proofs Go.Proofs.Pen

theorem own : ownKnob Try.prog.godebug = none := by kernel_rfl
theorem laidOut : laidOutB Try.prog = true := by kernel_rfl

theorem lifted (os : Os) (started : os.Started) (H : Type) (enc : TypeId × Value → H) :
    ReturnsInHanded {} Try.checked os 4 .any (Rows.bvhNoneSpec.pre6 enc Try.prog Try.f4 Rows.bvhNoneRow.domain false) (Rows.bvhNoneSpec.post enc Try.prog Try.f4 false true false false) :=
  law_lifted (C := Try.checked) (tb := 4) (tys := [TI]) (law := fun x => .opt (law12_BvhNone x) .ret) own started (by kernel_rfl) Try.func4
    (ChangeSpec.witness6 (enc := enc) (C := Try.checked) false ⟨#[], #[.int .i64 0], []⟩ 8 (by kernel_rfl) (by kernel_rfl) (by kernel_rfl) (by kernel_rfl))
    laidOut (by kernel_rfl) (by kernel_rfl) (by kernel_rfl) rfl Try.underlying4 law12_BvhNone.ok
    (fun x hx => by
      have h : (law12_BvhNone.t x).run = some true := BvhNone_all x hx
      show (T.opt (law12_BvhNone.t x).run T.ret).run = some true
      rw [h]; rfl)
    rfl (by kernel_rfl) (fun ds h => by
      have h : ds.length = 1 := h
      match ds, h with
      | [_], _ => rfl)

theorem over : Rows.bvhNoneRow.holds Try.pinned (OpenSpec.ofChange Rows.bvhNoneSpec) :=
  OpenClaim.holds_of_wide 4 Try.f4 rfl rfl rfl rfl rfl rfl rfl ⟨rfl, rfl, rfl, rfl, rfl⟩ rfl rfl rfl rfl rfl (by kernel_rfl) Try.func4 (by kernel_rfl)
    (of_decide_eq_true (by kernel_rfl)) (by unfold Func.isWrapper; first | (rw [if_pos (by decide +kernel)]; kernel_rfl) | (rw [if_neg (by decide +kernel)]; exact ⟨rfl, rfl⟩))
    (fun os started H enc _ => lifted os started H enc)
end Go.Proofs.Ytncgifjccpngfaa.bvhNone
namespace Go.Proofs.Ytncgifjccpngfaa
theorem bvhNone_holds : Rows.BvhNoneSaid := bvhNone.over
#print axioms bvhNone_holds
end Go.Proofs.Ytncgifjccpngfaa
