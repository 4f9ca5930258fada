/- For every input the law SplitMeets returns true, and each argument reads behind the call as it read before: the program's text is told by a model (proved to be what the text does), and the model is true of all data. -/
import Derived.Test.YtfkgoljaeggbmaaRows
import Derived.KernelRfl
import Derived.Test.YtfkgoljaeggbmaaPenKit0
import Derived.Test.YtfkgoljaeggbmaaPenKit1
import Derived.Test.YtfkgoljaeggbmaaPenKit2
import Derived.Test.YtfkgoljaeggbmaaPenSplitMeets3
namespace Go.Proofs.Ytfkgoljaeggbmaa.splitMeets
open Go Go.Proofs Go.Proofs.Pen

theorem own : ownKnob Try.prog.godebug = none := by kernel_rfl
theorem laidOut : laidOutB Try.prog = true := by kernel_rfl

theorem lifted (os : Os) (started : os.Started) (H : Type) (enc : TypeId × Value → H) :
    ReturnsInHanded {} Try.checked os 10 .any (Rows.splitMeetsSpec.pre6 enc Try.prog Try.f10 Rows.splitMeetsRow.domain false) (Rows.splitMeetsSpec.post enc Try.prog Try.f10 false true false false) :=
  law_lifted (C := Try.checked) (tb := 4) (tys := [(.st (.pair (.st (.pair TI (.pair TI (.pair TI TI)))) (.pair (.st (.pair TI (.pair TI (.pair TI TI)))) (.pair TI TI))))]) (law := fun x => .opt (law37_SplitMeets x) .ret) own started (by kernel_rfl) Try.func10
    (ChangeSpec.witness6 (enc := enc) (C := Try.checked) false ⟨#[], #[.agg #[.int .i64 0, .int .i64 0, .int .i64 0, .int .i64 0, .int .i64 0, .int .i64 0, .int .i64 0, .int .i64 0, .int .i64 0, .int .i64 0]], []⟩ 8 (by kernel_rfl) (by kernel_rfl) (by kernel_rfl) (by kernel_rfl))
    laidOut (by kernel_rfl) (by kernel_rfl) (by kernel_rfl) rfl Try.underlying4 law37_SplitMeets.ok
    (fun x hx => by
      have h : (law37_SplitMeets.t x).run = some true := SplitMeets_all x hx
      show (T.opt (law37_SplitMeets.t x).run T.ret).run = some true
      rw [h]; rfl)
    rfl (fun ds h => by
      have h : ds.length = 1 := h
      match ds, h with
      | [_], _ => rfl)

theorem over : Rows.splitMeetsRow.holds Try.pinned (OpenSpec.ofChange Rows.splitMeetsSpec) :=
  OpenClaim.holds_of_wide 10 Try.f10 rfl rfl rfl rfl rfl rfl rfl ⟨rfl, rfl, rfl, rfl, rfl⟩ rfl rfl rfl rfl rfl (by kernel_rfl) Try.func10 (by kernel_rfl)
    (of_decide_eq_true (by kernel_rfl)) (by unfold Func.isWrapper; first | (rw [if_pos (by decide +kernel)]; kernel_rfl) | (rw [if_neg (by decide +kernel)]; exact ⟨rfl, rfl⟩))
    (fun os started H enc _ => lifted os started H enc)
end Go.Proofs.Ytfkgoljaeggbmaa.splitMeets
namespace Go.Proofs.Ytfkgoljaeggbmaa
theorem splitMeets_holds : Rows.SplitMeetsSaid := splitMeets.over
#print axioms splitMeets_holds
end Go.Proofs.Ytfkgoljaeggbmaa
