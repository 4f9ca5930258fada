/- For every input the law SplitBands returns true, and each argument reads behind the call as it read before: the program's text is told by a model (proved to be what the text does), and the model is true of all data. -/
import Derived.Test.YtfkgoljaeggbmaaRows
import Derived.KernelRfl
import Derived.Test.YtfkgoljaeggbmaaPenKit0
import Derived.Test.YtfkgoljaeggbmaaPenKit1
import Derived.Test.YtfkgoljaeggbmaaPenKit2
import Derived.Test.YtfkgoljaeggbmaaPenSplitBands3
namespace Go.Proofs.Ytfkgoljaeggbmaa.splitBands
open Go Go.Proofs Go.Proofs.Pen

theorem own : ownKnob Try.prog.godebug = none := by kernel_rfl
theorem laidOut : laidOutB Try.prog = true := by kernel_rfl

theorem lifted (os : Os) (started : os.Started) (H : Type) (enc : TypeId × Value → H) :
    ReturnsInHanded {} Try.checked os 8 .any (Rows.splitBandsSpec.pre6 enc Try.prog Try.f8 Rows.splitBandsRow.domain false) (Rows.splitBandsSpec.post enc Try.prog Try.f8 false true false false) :=
  law_lifted (C := Try.checked) (tb := 4) (tys := [TI, TI, TI]) (law := fun x => .opt (law37_SplitBands x) .ret) own started (by kernel_rfl) Try.func8
    (ChangeSpec.witness6 (enc := enc) (C := Try.checked) false ⟨#[], #[.int .i64 0, .int .i64 0, .int .i64 0], []⟩ 8 (by kernel_rfl) (by kernel_rfl) (by kernel_rfl) (by kernel_rfl))
    laidOut (by kernel_rfl) (by kernel_rfl) (by kernel_rfl) rfl Try.underlying4 law37_SplitBands.ok
    (fun x hx => by
      have h : (law37_SplitBands.t x).run = some true := SplitBands_all x hx
      show (T.opt (law37_SplitBands.t x).run T.ret).run = some true
      rw [h]; rfl)
    rfl (fun ds h => by
      have h : ds.length = 3 := h
      match ds, h with
      | [_, _, _], _ => rfl)

theorem over : Rows.splitBandsRow.holds Try.pinned (OpenSpec.ofChange Rows.splitBandsSpec) :=
  OpenClaim.holds_of_wide 8 Try.f8 rfl rfl rfl rfl rfl rfl rfl ⟨rfl, rfl, rfl, rfl, rfl⟩ rfl rfl rfl rfl rfl (by kernel_rfl) Try.func8 (by kernel_rfl)
    (of_decide_eq_true (by kernel_rfl)) (by unfold Func.isWrapper; first | (rw [if_pos (by decide +kernel)]; kernel_rfl) | (rw [if_neg (by decide +kernel)]; exact ⟨rfl, rfl⟩))
    (fun os started H enc _ => lifted os started H enc)
end Go.Proofs.Ytfkgoljaeggbmaa.splitBands
namespace Go.Proofs.Ytfkgoljaeggbmaa
theorem splitBands_holds : Rows.SplitBandsSaid := splitBands.over
#print axioms splitBands_holds
end Go.Proofs.Ytfkgoljaeggbmaa
