/- For every input the law XformTurns returns true, and each argument reads behind the call as it read before: the program's text is told by a model (proved to be what the text does), and the model is true of all data. -/
import Derived.Test.YtfkgoljaeggbmaaRows
import Derived.KernelRfl
import Derived.Test.YtfkgoljaeggbmaaPenKit0
import Derived.Test.YtfkgoljaeggbmaaPenKit1
import Derived.Test.YtfkgoljaeggbmaaPenKit2
import Derived.Test.YtfkgoljaeggbmaaPenXformTurns3
namespace Go.Proofs.Ytfkgoljaeggbmaa.xformTurns
open Go Go.Proofs Go.Proofs.Pen

theorem own : ownKnob Try.prog.godebug = none := by kernel_rfl
theorem laidOut : laidOutB Try.prog = true := by kernel_rfl

theorem lifted (os : Os) (started : os.Started) (H : Type) (enc : TypeId × Value → H) :
    ReturnsInHanded {} Try.checked os 4 .any (Rows.xformTurnsSpec.pre6 enc Try.prog Try.f4 Rows.xformTurnsRow.domain false) (Rows.xformTurnsSpec.post enc Try.prog Try.f4 false true false false) :=
  law_lifted (C := Try.checked) (tb := 4) (tys := [TI, TI, (.st (.pair TI (.pair TI TI)))]) (law := fun x => .opt (law46_XformTurns x) .ret) own started (by kernel_rfl) Try.func4
    (ChangeSpec.witness6 (enc := enc) (C := Try.checked) false ⟨#[], #[.int .i64 0, .int .i64 0, .agg #[.int .i64 0, .int .i64 0, .int .i64 0]], []⟩ 8 (by kernel_rfl) (by kernel_rfl) (by kernel_rfl) (by kernel_rfl))
    laidOut (by kernel_rfl) (by kernel_rfl) (by kernel_rfl) rfl Try.underlying4 law46_XformTurns.ok
    (fun x hx => by
      have h : (law46_XformTurns.t x).run = some true := XformTurns_all x hx
      show (T.opt (law46_XformTurns.t x).run T.ret).run = some true
      rw [h]; rfl)
    rfl (fun ds h => by
      have h : ds.length = 3 := h
      match ds, h with
      | [_, _, _], _ => rfl)

theorem over : Rows.xformTurnsRow.holds Try.pinned (OpenSpec.ofChange Rows.xformTurnsSpec) :=
  OpenClaim.holds_of_wide 4 Try.f4 rfl rfl rfl rfl rfl rfl rfl ⟨rfl, rfl, rfl, rfl, rfl⟩ rfl rfl rfl rfl rfl (by kernel_rfl) Try.func4 (by kernel_rfl)
    (of_decide_eq_true (by kernel_rfl)) (by unfold Func.isWrapper; first | (rw [if_pos (by decide +kernel)]; kernel_rfl) | (rw [if_neg (by decide +kernel)]; exact ⟨rfl, rfl⟩))
    (fun os started H enc _ => lifted os started H enc)
end Go.Proofs.Ytfkgoljaeggbmaa.xformTurns
namespace Go.Proofs.Ytfkgoljaeggbmaa
theorem xformTurns_holds : Rows.XformTurnsSaid := xformTurns.over
#print axioms xformTurns_holds
end Go.Proofs.Ytfkgoljaeggbmaa
