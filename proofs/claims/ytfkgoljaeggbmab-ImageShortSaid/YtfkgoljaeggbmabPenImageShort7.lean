/- For every input the law ImageShort returns true, and each argument reads behind the call as it read before: the program's text is told by a model (proved to be what the text does), and the model is true of all data. -/
import Derived.Test.YtfkgoljaeggbmabRows
import Derived.KernelRfl
import Derived.Test.YtfkgoljaeggbmabPenKit0
import Derived.Test.YtfkgoljaeggbmabPenKit1
import Derived.Test.YtfkgoljaeggbmabPenKit2
import Derived.Test.YtfkgoljaeggbmabPenImageShort3
import Derived.Test.YtfkgoljaeggbmabPenKit4
import Derived.Test.YtfkgoljaeggbmabPenImageShort5
import Derived.Test.YtfkgoljaeggbmabPenImageShort6
namespace Go.Proofs.Ytfkgoljaeggbmab.imageShort
open Go Go.Proofs Go.Proofs.Pen

theorem own : ownKnob Try.prog.godebug = none := by kernel_rfl
theorem laidOut : laidOutB Try.prog = true := by kernel_rfl

theorem lifted (os : Os) (started : os.Started) (H : Type) (enc : TypeId × Value → H) :
    ReturnsInHanded {} Try.checked os 5 .any (Rows.imageShortSpec.pre6 enc Try.prog Try.f5 Rows.imageShortRow.domain false) (Rows.imageShortSpec.post enc Try.prog Try.f5 false true false false) :=
  law_lifted (C := Try.checked) (tb := 4) (tys := [(.st (.pair (.st (.pair TI (.pair TI (.pair (.sl .flt) (.sl TI))))) (.pair (.int .u16) (.pair (.int .u8) (.int .u8)))))]) (law := fun x => .opt (law29_ImageShort x) .ret) own started (by kernel_rfl) Try.func5
    (ChangeSpec.witness6 (enc := enc) (C := Try.checked) false ⟨#[], #[.agg #[.int .i64 0, .int .i64 0, .slice none 0 0, .slice none 0 0, .int .u16 0, .int .u8 0, .int .u8 0]], []⟩ 8 (by kernel_rfl) (by kernel_rfl) (by kernel_rfl) (by kernel_rfl))
    laidOut (by kernel_rfl) (by kernel_rfl) (by kernel_rfl) rfl Try.underlying4 law29_ImageShort.ok
    (fun x hx => by
      have h : (law29_ImageShort.t x).run = some true := imageShort_plain x hx
      show (T.opt (law29_ImageShort.t x).run T.ret).run = some true
      rw [h]; rfl)
    rfl (fun ds h => by
      have h : ds.length = 1 := h
      match ds, h with
      | [_], _ => rfl)

theorem over : Rows.imageShortRow.holds Try.pinned (OpenSpec.ofChange Rows.imageShortSpec) :=
  OpenClaim.holds_of_wide 5 Try.f5 rfl rfl rfl rfl rfl rfl rfl ⟨rfl, rfl, rfl, rfl, rfl⟩ rfl rfl rfl rfl rfl (by kernel_rfl) Try.func5 (by kernel_rfl)
    (of_decide_eq_true (by kernel_rfl)) (by unfold Func.isWrapper; first | (rw [if_pos (by decide +kernel)]; kernel_rfl) | (rw [if_neg (by decide +kernel)]; exact ⟨rfl, rfl⟩))
    (fun os started H enc _ => lifted os started H enc)
end Go.Proofs.Ytfkgoljaeggbmab.imageShort
namespace Go.Proofs.Ytfkgoljaeggbmab
theorem imageShort_holds : Rows.ImageShortSaid := imageShort.over
#print axioms imageShort_holds
end Go.Proofs.Ytfkgoljaeggbmab
