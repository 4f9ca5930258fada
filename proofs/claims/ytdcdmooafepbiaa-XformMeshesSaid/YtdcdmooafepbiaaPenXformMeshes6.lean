/- For every input the law XformMeshes returns true, and each argument reads behind the call as it read before: the program's text is told by a model (proved to be what the text does), and the model is true of all data. -/
import Derived.Test.YtdcdmooafepbiaaRows
import Derived.KernelRfl
import Derived.Test.YtdcdmooafepbiaaPenKit0
import Derived.Test.YtdcdmooafepbiaaPenKit1
import Derived.Test.YtdcdmooafepbiaaPenKit2
import Derived.Test.YtdcdmooafepbiaaPenKit3
import Derived.Test.YtdcdmooafepbiaaPenXformMeshes4
import Derived.Test.YtdcdmooafepbiaaPenXformMeshes5
namespace Go.Proofs.Ytdcdmooafepbiaa.xformMeshes
open Go Go.Proofs Go.Proofs.Pen

theorem own : ownKnob Try.prog.godebug = none := by kernel_rfl
theorem laidOut : laidOutB Try.prog = true := by kernel_rfl

theorem lifted (os : Os) (started : os.Started) (H : Type) (enc : TypeId × Value → H) :
    ReturnsInHanded {} Try.checked os 8 .any (Rows.xformMeshesSpec.pre6 enc Try.prog Try.f8 Rows.xformMeshesRow.domain false) (Rows.xformMeshesSpec.post enc Try.prog Try.f8 false true false false) :=
  law_lifted (C := Try.checked) (tb := 4) (tys := [(.st (.pair (.st (.pair (.st (.pair TI (.pair TI TI))) (.pair (.st (.pair TI (.pair TI TI))) (.pair (.st (.pair TI (.pair TI TI))) (.st (.pair TI (.pair TI TI))))))) (.pair (.st (.pair (.sl (.st (.pair TI (.pair TI TI)))) (.sl (.st (.pair TI (.pair TI TI)))))) (.pair (.int .u8) TI))))]) (law := fun x => .opt (law46_XformMeshes x) .ret) own started (by kernel_rfl) Try.func8
    (ChangeSpec.witness6 (enc := enc) (C := Try.checked) false ⟨#[], #[.agg #[.int .i64 0, .int .i64 0, .int .i64 0, .int .i64 0, .int .i64 0, .int .i64 0, .int .i64 0, .int .i64 0, .int .i64 0, .int .i64 0, .int .i64 0, .int .i64 0, .slice none 0 0, .slice none 0 0, .int .u8 0, .int .i64 0]], []⟩ 8 (by kernel_rfl) (by kernel_rfl) (by kernel_rfl) (by kernel_rfl))
    laidOut (by kernel_rfl) (by kernel_rfl) (by kernel_rfl) rfl Try.underlying4 law46_XformMeshes.ok
    (fun x hx => by
      have h : (law46_XformMeshes.t x).run = some true := XformMeshes_all x hx
      show (T.opt (law46_XformMeshes.t x).run T.ret).run = some true
      rw [h]; rfl)
    rfl (by kernel_rfl) (fun ds h => by
      have h : ds.length = 1 := h
      match ds, h with
      | [_], _ => rfl)

theorem over : Rows.xformMeshesRow.holds Try.pinned (OpenSpec.ofChange Rows.xformMeshesSpec) :=
  OpenClaim.holds_of_wide 8 Try.f8 rfl rfl rfl rfl rfl rfl rfl ⟨rfl, rfl, rfl, rfl, rfl⟩ rfl rfl rfl rfl rfl (by kernel_rfl) Try.func8 (by kernel_rfl)
    (of_decide_eq_true (by kernel_rfl)) (by unfold Func.isWrapper; first | (rw [if_pos (by decide +kernel)]; kernel_rfl) | (rw [if_neg (by decide +kernel)]; exact ⟨rfl, rfl⟩))
    (fun os started H enc _ => lifted os started H enc)
end Go.Proofs.Ytdcdmooafepbiaa.xformMeshes
namespace Go.Proofs.Ytdcdmooafepbiaa
theorem xformMeshes_holds : Rows.XformMeshesSaid := xformMeshes.over
#print axioms xformMeshes_holds
end Go.Proofs.Ytdcdmooafepbiaa
