/- For every input the law BuildMakes returns true, and each argument reads behind the call as it read before: the program's text is told by a model (proved to be what the text does), and the model is true of all data; the listed variable is tied to the program's text. -/
import Derived.Test.YtdcdmooafepbiaaGreatDoorTie
import Derived.Test.YtdcdmooafepbiaaGreatDoorCards
import Derived.SevenTiedAt
import Derived.KernelRfl
import Derived.Test.YtdcdmooafepbiaaGreatDoorPenKit0
import Derived.Test.YtdcdmooafepbiaaGreatDoorPenKit1
import Derived.Test.YtdcdmooafepbiaaGreatDoorPenKit2
import Derived.Test.YtdcdmooafepbiaaGreatDoorPenKit3
import Derived.Test.YtdcdmooafepbiaaGreatDoorPenBuildMakes4
import Derived.Test.YtdcdmooafepbiaaGreatDoorPenKit5
import Derived.Test.YtdcdmooafepbiaaGreatDoorPenBuildMakes6
import Derived.Test.YtdcdmooafepbiaaGreatDoorPenBuildMakes7
import Derived.Test.YtdcdmooafepbiaaGreatDoorPenBuildMakes8
namespace Go.Proofs.YtdcdmooafepbiaaGreatDoor.BuildMakes
open Go Go.Proofs Go.Proofs.Pen

theorem own : ownKnob Tryz.prog.godebug = none := by kernel_rfl
theorem laidOut : laidOutB Tryz.prog = true := by kernel_rfl

theorem lifted (os : Os) (started : os.Started) (H : Type) (enc : TypeId × Value → H) :
    ReturnsInHanded {} Tryz.checked os 3 .any (fun w args => (Rows.buildMakesSpec.pre enc Tryz.prog Tryz.f3 Rows.buildMakesRow.domain false w args ∧ laidMetH Tryz.prog doorL w) ∧ sizedMet enc Tryz.prog Tryz.f3 (OpenSpec.ofChange Rows.buildMakesSpec) false w args) (Rows.buildMakesSpec.post enc Tryz.prog Tryz.f3 false true false false) :=
  law_lifted_laid (C := Tryz.checked) (L := doorL) (tb := 4) (tys := [(.st (.pair (.st (.pair TI (.pair TI TI))) (.pair (.st (.pair TI (.pair TI TI))) (.pair (.st (.pair TI (.pair TI TI))) (.pair TI (.pair TI TI)))))), (.sl (.st (.pair TI (.pair TI (.pair TI (.pair TI (.pair (.st (.pair TI (.pair TI TI))) (.pair (.st (.pair TI (.pair TI TI))) (.pair (.st (.pair (.st (.pair TI (.pair TI TI))) (.pair (.st (.pair TI (.pair TI TI))) (.pair (.st (.pair TI (.pair TI TI))) (.st (.pair TI (.pair TI TI))))))) (.pair (.st (.pair (.st (.pair TI (.pair TI TI))) (.pair (.st (.pair TI (.pair TI TI))) TI))) (.sl (.st (.pair TI (.pair TI TI))))))))))))))]) (law := fun x => .opt (law47_BuildMakes x) .ret) own started (by kernel_rfl) Tryz.func3
    (ChangeSpec.witness_at (enc := enc) (C := Tryz.checked) (os := os) (X := fun w _ => laidMetH Tryz.prog doorL w) false (doorWorld os) #[.agg #[.int .i64 0, .int .i64 0, .int .i64 0, .int .i64 0, .int .i64 0, .int .i64 0, .int .i64 0, .int .i64 0, .int .i64 0, .int .i64 0, .int .i64 0, .int .i64 0], .slice none 0 0] 8 rfl (by kernel_rfl) (by kernel_rfl) (by kernel_rfl) (by kernel_rfl) (by kernel_rfl) (doorWorld_met os _))
    laidOut (by kernel_rfl) (by kernel_rfl) (by kernel_rfl) rfl Tryz.underlying4 law47_BuildMakes.ok
    (fun x hx => by
      have h : (law47_BuildMakes.t x).run = some true := BuildMakes_all x hx
      show (T.opt (law47_BuildMakes.t x).run T.ret).run = some true
      rw [h]; rfl)
    rfl door_glob (fun ds h => by
      have h : ds.length = 2 := h
      match ds, h with
      | [_, _], _ => rfl)

theorem over : Rows.buildMakesRow.holds Tryz.pinned (OpenSpec.ofChange Rows.buildMakesSpec) :=
  OpenClaim.holds_of_wide 3 Tryz.f3 rfl rfl rfl rfl rfl rfl rfl ⟨rfl, rfl, rfl, rfl, rfl⟩ rfl rfl rfl rfl rfl (by kernel_rfl) Tryz.func3 (by kernel_rfl)
    (of_decide_eq_true (by kernel_rfl)) (by unfold Func.isWrapper; first | (rw [if_pos (by decide +kernel)]; kernel_rfl) | (rw [if_neg (by decide +kernel)]; exact ⟨rfl, rfl⟩))
    (fun os started H enc _ => lifted os started H enc)

theorem plainTypes : (Tryz.f3.params.toList.all fun t => !(Tryz.prog.wantsStandIn t)) = true := by kernel_rfl

theorem card : Claim7.holds Tryz.pinned (.plain (OpenSpec.ofChange Rows.buildMakesSpec)) Rows.buildMakesCard :=
  Claim7.holds_tied_plain_at .later [] [.handle] true (true, "6d75b2715eb81257e466b023b3deea78d34036d703887cd6a978b8f66fcda8c3") true
    over (fun _ h => by cases h) (by kernel_rfl) (fun _ h => by cases h) buildMakes_row_tie rfl ⟨rfl, rfl⟩ (by kernel_rfl) rfl
    (fun f fn hf hfn => by
      obtain rfl : f = 3 := Option.some.inj ((show Tryz.prog.funcNamed "penumbra/penumbralaw47.BuildMakes" = some 3 by kernel_rfl).symm.trans hf) |>.symm
      obtain rfl : fn = Tryz.f3 := (Option.some.inj (Tryz.func3.symm.trans hfn)).symm
      exact ⟨by kernel_rfl, fun j t ht => by
        have h := List.all_eq_true.1 plainTypes t (List.mem_of_getElem? (by rw [Array.getElem?_toList]; exact ht))
        have h2 : Tryz.prog.wantsStandIn t = false := by simpa using h
        exact h2⟩)
    (by kernel_rfl)
end Go.Proofs.YtdcdmooafepbiaaGreatDoor.BuildMakes
namespace Go.Proofs.YtdcdmooafepbiaaGreatDoor
theorem buildMakes_holds : Rows.BuildMakesCardSaid := BuildMakes.card
#print axioms buildMakes_holds
end Go.Proofs.YtdcdmooafepbiaaGreatDoor
