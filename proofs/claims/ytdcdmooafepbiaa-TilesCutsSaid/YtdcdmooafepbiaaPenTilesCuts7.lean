/- For every input the law TilesCuts returns true, and each argument reads behind the call as it read before: the program's text is told by a model (proved to be what the text does), and the model is true of all data. -/
import Derived.Test.YtdcdmooafepbiaaRows
import Derived.KernelRfl
import Derived.Test.YtdcdmooafepbiaaPenKit0
import Derived.Test.YtdcdmooafepbiaaPenKit1
import Derived.Test.YtdcdmooafepbiaaPenKit2
import Derived.Test.YtdcdmooafepbiaaPenKit3
import Derived.Test.YtdcdmooafepbiaaPenTilesCuts4
import Derived.Test.YtdcdmooafepbiaaPenKit5
import Derived.Test.YtdcdmooafepbiaaPenTilesCuts6
namespace Go.Proofs.Ytdcdmooafepbiaa.tilesCuts
open Go Go.Proofs Go.Proofs.Pen

theorem own : ownKnob Try.prog.godebug = none := by kernel_rfl
theorem laidOut : laidOutB Try.prog = true := by kernel_rfl

theorem lifted (os : Os) (started : os.Started) (H : Type) (enc : TypeId × Value → H) :
    ReturnsInHanded {} Try.checked os 3 .any (Rows.tilesCutsSpec.pre6 enc Try.prog Try.f3 Rows.tilesCutsRow.domain false) (Rows.tilesCutsSpec.post enc Try.prog Try.f3 false true false false) :=
  law_lifted (C := Try.checked) (tb := 4) (tys := [(.st (.pair TI (.pair TI (.pair (.sl .flt) (.sl TI))))), (.int .u8), (.st (.pair TI (.pair TI (.pair TI TI))))]) (law := fun x => .opt (law38_TilesCuts x) .ret) own started (by kernel_rfl) Try.func3
    (ChangeSpec.witness6 (enc := enc) (C := Try.checked) false ⟨#[], #[.agg #[.int .i64 0, .int .i64 0, .slice none 0 0, .slice none 0 0], .int .u8 0, .agg #[.int .i64 0, .int .i64 0, .int .i64 0, .int .i64 0]], []⟩ 8 (by kernel_rfl) (by kernel_rfl) (by kernel_rfl) (by kernel_rfl))
    laidOut (by kernel_rfl) (by kernel_rfl) (by kernel_rfl) rfl Try.underlying4 law38_TilesCuts.ok
    (fun x hx => by
      have h : (law38_TilesCuts.t x).run = some true := TilesCuts_all x hx
      show (T.opt (law38_TilesCuts.t x).run T.ret).run = some true
      rw [h]; rfl)
    rfl (by kernel_rfl) (fun ds h => by
      have h : ds.length = 3 := h
      match ds, h with
      | [_, _, _], _ => rfl)

theorem over : Rows.tilesCutsRow.holds Try.pinned (OpenSpec.ofChange Rows.tilesCutsSpec) :=
  OpenClaim.holds_of_wide 3 Try.f3 rfl rfl rfl rfl rfl rfl rfl ⟨rfl, rfl, rfl, rfl, rfl⟩ rfl rfl rfl rfl rfl (by kernel_rfl) Try.func3 (by kernel_rfl)
    (of_decide_eq_true (by kernel_rfl)) (by unfold Func.isWrapper; first | (rw [if_pos (by decide +kernel)]; kernel_rfl) | (rw [if_neg (by decide +kernel)]; exact ⟨rfl, rfl⟩))
    (fun os started H enc _ => lifted os started H enc)
end Go.Proofs.Ytdcdmooafepbiaa.tilesCuts
namespace Go.Proofs.Ytdcdmooafepbiaa
theorem tilesCuts_holds : Rows.TilesCutsSaid := tilesCuts.over
#print axioms tilesCuts_holds
end Go.Proofs.Ytdcdmooafepbiaa
