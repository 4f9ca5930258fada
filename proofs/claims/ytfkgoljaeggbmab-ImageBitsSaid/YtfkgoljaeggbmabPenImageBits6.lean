/- For every input the law ImageBits returns true, and each argument reads behind the call as it read before: the program's text is told by a model (proved to be what the text does), and the model is true of all data. -/
import Derived.Test.YtfkgoljaeggbmabRows
import Derived.KernelRfl
import Derived.Test.YtfkgoljaeggbmabPenKit0
import Derived.Test.YtfkgoljaeggbmabPenKit1
import Derived.Test.YtfkgoljaeggbmabPenKit2
import Derived.Test.YtfkgoljaeggbmabPenImageBits3
import Derived.Test.YtfkgoljaeggbmabPenKit4
import Derived.Test.YtfkgoljaeggbmabPenImageBits5
namespace Go.Proofs.Ytfkgoljaeggbmab.imageBits
open Go Go.Proofs Go.Proofs.Pen

theorem own : ownKnob Try.prog.godebug = none := by kernel_rfl
theorem laidOut : laidOutB Try.prog = true := by kernel_rfl

theorem lifted (os : Os) (started : os.Started) (H : Type) (enc : TypeId × Value → H) :
    ReturnsInHanded {} Try.checked os 6 .any (Rows.imageBitsSpec.pre6 enc Try.prog Try.f6 Rows.imageBitsRow.domain false) (Rows.imageBitsSpec.post enc Try.prog Try.f6 false true false false) :=
  law_lifted (C := Try.checked) (tb := 4) (tys := [.flt, TI, TI]) (law := fun x => .opt (law29_ImageBits x) .ret) own started (by kernel_rfl) Try.func6
    (ChangeSpec.witness6 (enc := enc) (C := Try.checked) false ⟨#[], #[.float .f64 0, .int .i64 0, .int .i64 0], []⟩ 8 (by kernel_rfl) (by kernel_rfl) (by kernel_rfl) (by kernel_rfl))
    laidOut (by kernel_rfl) (by kernel_rfl) (by kernel_rfl) rfl Try.underlying4 law29_ImageBits.ok
    (fun x hx => by
      have h : (law29_ImageBits.t x).run = some true := imageBits_plain x hx
      show (T.opt (law29_ImageBits.t x).run T.ret).run = some true
      rw [h]; rfl)
    rfl (fun ds h => by
      have h : ds.length = 3 := h
      match ds, h with
      | [_, _, _], _ => rfl)

theorem over : Rows.imageBitsRow.holds Try.pinned (OpenSpec.ofChange Rows.imageBitsSpec) :=
  OpenClaim.holds_of_wide 6 Try.f6 rfl rfl rfl rfl rfl rfl rfl ⟨rfl, rfl, rfl, rfl, rfl⟩ rfl rfl rfl rfl rfl (by kernel_rfl) Try.func6 (by kernel_rfl)
    (of_decide_eq_true (by kernel_rfl)) (by unfold Func.isWrapper; first | (rw [if_pos (by decide +kernel)]; kernel_rfl) | (rw [if_neg (by decide +kernel)]; exact ⟨rfl, rfl⟩))
    (fun os started H enc _ => lifted os started H enc)
end Go.Proofs.Ytfkgoljaeggbmab.imageBits
namespace Go.Proofs.Ytfkgoljaeggbmab
theorem imageBits_holds : Rows.ImageBitsSaid := imageBits.over
#print axioms imageBits_holds
end Go.Proofs.Ytfkgoljaeggbmab
