/- For every input the law XformThen returns true, and each argument reads behind the call as it read before: the program's text is told by a model (proved to be what the text does), and the model is true of all data. -/
import Derived.Test.YtfkgoljaeggbmaaRows
import Derived.KernelRfl
import Derived.Test.YtfkgoljaeggbmaaPenKit0
import Derived.Test.YtfkgoljaeggbmaaPenKit1
import Derived.Test.YtfkgoljaeggbmaaPenKit2
import Derived.Test.YtfkgoljaeggbmaaPenXformThen3
namespace Go.Proofs.Ytfkgoljaeggbmaa.xformThen
open Go Go.Proofs Go.Proofs.Pen

theorem own : ownKnob Try.prog.godebug = none := by kernel_rfl
theorem laidOut : laidOutB Try.prog = true := by kernel_rfl

theorem lifted (os : Os) (started : os.Started) (H : Type) (enc : TypeId × Value → H) :
    ReturnsInHanded {} Try.checked os 3 .any (Rows.xformThenSpec.pre6 enc Try.prog Try.f3 Rows.xformThenRow.domain false) (Rows.xformThenSpec.post enc Try.prog Try.f3 false true false false) :=
  law_lifted (C := Try.checked) (tb := 4) (tys := [TMove, TMove, (.st (.pair TI (.pair TI TI)))]) (law := fun x => .opt (law46_XformThen x) .ret) own started (by kernel_rfl) Try.func3
    (ChangeSpec.witness6 (enc := enc) (C := Try.checked) false ⟨#[], #[.agg #[.int .i64 0, .int .i64 0, .int .i64 0, .int .i64 0, .int .i64 0, .int .i64 0, .int .i64 0, .int .i64 0, .int .i64 0, .int .i64 0, .int .i64 0, .int .i64 0], .agg #[.int .i64 0, .int .i64 0, .int .i64 0, .int .i64 0, .int .i64 0, .int .i64 0, .int .i64 0, .int .i64 0, .int .i64 0, .int .i64 0, .int .i64 0, .int .i64 0], .agg #[.int .i64 0, .int .i64 0, .int .i64 0]], []⟩ 8 (by kernel_rfl) (by kernel_rfl) (by kernel_rfl) (by kernel_rfl))
    laidOut (by kernel_rfl) (by kernel_rfl) (by kernel_rfl) rfl Try.underlying4 law46_XformThen.ok
    (fun x hx => by
      have h : (law46_XformThen.t x).run = some true := XformThen_all x hx
      show (T.opt (law46_XformThen.t x).run T.ret).run = some true
      rw [h]; rfl)
    rfl (fun ds h => by
      have h : ds.length = 3 := h
      match ds, h with
      | [_, _, _], _ => rfl)

theorem over : Rows.xformThenRow.holds Try.pinned (OpenSpec.ofChange Rows.xformThenSpec) :=
  OpenClaim.holds_of_wide 3 Try.f3 rfl rfl rfl rfl rfl rfl rfl ⟨rfl, rfl, rfl, rfl, rfl⟩ rfl rfl rfl rfl rfl (by kernel_rfl) Try.func3 (by kernel_rfl)
    (of_decide_eq_true (by kernel_rfl)) (by unfold Func.isWrapper; first | (rw [if_pos (by decide +kernel)]; kernel_rfl) | (rw [if_neg (by decide +kernel)]; exact ⟨rfl, rfl⟩))
    (fun os started H enc _ => lifted os started H enc)
end Go.Proofs.Ytfkgoljaeggbmaa.xformThen
namespace Go.Proofs.Ytfkgoljaeggbmaa
theorem xformThen_holds : Rows.XformThenSaid := xformThen.over
#print axioms xformThen_holds
end Go.Proofs.Ytfkgoljaeggbmaa
