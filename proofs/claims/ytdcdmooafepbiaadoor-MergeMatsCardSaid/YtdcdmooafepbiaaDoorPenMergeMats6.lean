/- For every input the law MergeMats returns true, and each argument reads behind the call as it read before: the program's text is told by a model (proved to be what the text does), and the model is true of all data; the listed variable is tied to the program's text. -/
import Derived.Test.YtdcdmooafepbiaaDoorTie
import Derived.Test.YtdcdmooafepbiaaDoorCards
import Derived.SevenTiedAt
import Derived.KernelRfl
import Derived.Test.YtdcdmooafepbiaaDoorPenKit0
import Derived.Test.YtdcdmooafepbiaaDoorPenKit1
import Derived.Test.YtdcdmooafepbiaaDoorPenKit2
import Derived.Test.YtdcdmooafepbiaaDoorPenKit3
import Derived.Test.YtdcdmooafepbiaaDoorPenMergeMats4
import Derived.Test.YtdcdmooafepbiaaDoorPenMergeMats5
namespace Go.Proofs.YtdcdmooafepbiaaDoor.MergeMats
open Go Go.Proofs Go.Proofs.Pen

theorem own : ownKnob Tryd.prog.godebug = none := by kernel_rfl
theorem laidOut : laidOutB Tryd.prog = true := by kernel_rfl

theorem lifted (os : Os) (started : os.Started) (H : Type) (enc : TypeId × Value → H) :
    ReturnsInHanded {} Tryd.checked os 4 .any (fun w args => (Rows.mergeMatsSpec.pre enc Tryd.prog Tryd.f4 Rows.mergeMatsRow.domain false w args ∧ laidMetH Tryd.prog doorL w) ∧ sizedMet enc Tryd.prog Tryd.f4 (OpenSpec.ofChange Rows.mergeMatsSpec) false w args) (Rows.mergeMatsSpec.post enc Tryd.prog Tryd.f4 false true false false) :=
  law_lifted_laid (C := Tryd.checked) (L := doorL) (tb := 4) (tys := [(.st (.pair (.sl (.st (.pair (.st (.pair TI (.pair TI TI))) (.pair (.st (.pair TI (.pair TI TI))) TI)))) (.pair (.sl (.st (.pair (.st (.pair TI (.pair TI TI))) (.pair (.st (.pair TI (.pair TI TI))) (.pair (.st (.pair TI (.pair TI TI))) TI))))) (.pair (.sl (.st (.pair TI (.st (.pair TI (.pair TI TI)))))) (.pair TI (.pair (.sl (.st (.pair TI (.pair TI TI)))) (.pair (.st (.pair (.st (.pair TI (.pair TI TI))) (.pair (.st (.pair TI (.pair TI TI))) (.pair (.st (.pair TI (.pair TI TI))) (.pair TI (.pair TI TI)))))) (.pair TI TI))))))))]) (law := fun x => .opt (law48_MergeMats x) .ret) own started (by kernel_rfl) Tryd.func4
    (ChangeSpec.witness_at (enc := enc) (C := Tryd.checked) (os := os) (X := fun w _ => laidMetH Tryd.prog doorL w) false (doorWorld os) #[.agg #[.slice none 0 0, .slice none 0 0, .slice none 0 0, .int .i64 0, .slice none 0 0, .int .i64 0, .int .i64 0, .int .i64 0, .int .i64 0, .int .i64 0, .int .i64 0, .int .i64 0, .int .i64 0, .int .i64 0, .int .i64 0, .int .i64 0, .int .i64 0, .int .i64 0, .int .i64 0]] 8 rfl (by kernel_rfl) (by kernel_rfl) (by kernel_rfl) (by kernel_rfl) (by kernel_rfl) (doorWorld_met os _))
    laidOut (by kernel_rfl) (by kernel_rfl) (by kernel_rfl) rfl Tryd.underlying4 law48_MergeMats.ok
    (fun x hx => by
      have h : (law48_MergeMats.t x).run = some true := MergeMats_all x hx
      show (T.opt (law48_MergeMats.t x).run T.ret).run = some true
      rw [h]; rfl)
    rfl door_glob (fun ds h => by
      have h : ds.length = 1 := h
      match ds, h with
      | [_], _ => rfl)

theorem over : Rows.mergeMatsRow.holds Tryd.pinned (OpenSpec.ofChange Rows.mergeMatsSpec) :=
  OpenClaim.holds_of_wide 4 Tryd.f4 rfl rfl rfl rfl rfl rfl rfl ⟨rfl, rfl, rfl, rfl, rfl⟩ rfl rfl rfl rfl rfl (by kernel_rfl) Tryd.func4 (by kernel_rfl)
    (of_decide_eq_true (by kernel_rfl)) (by unfold Func.isWrapper; first | (rw [if_pos (by decide +kernel)]; kernel_rfl) | (rw [if_neg (by decide +kernel)]; exact ⟨rfl, rfl⟩))
    (fun os started H enc _ => lifted os started H enc)

theorem plainTypes : (Tryd.f4.params.toList.all fun t => !(Tryd.prog.wantsStandIn t)) = true := by kernel_rfl

theorem card : Claim7.holds Tryd.pinned (.plain (OpenSpec.ofChange Rows.mergeMatsSpec)) Rows.mergeMatsCard :=
  Claim7.holds_tied_plain_at .later [] [.handle] true (true, "c6dbaf13336c0c053a301cc080dcfe58b1a4af0a619e7f61261385a245c4434d") true
    over (fun _ h => by cases h) (by kernel_rfl) (fun _ h => by cases h) mergeMats_row_tie rfl ⟨rfl, rfl⟩ (by kernel_rfl) rfl
    (fun f fn hf hfn => by
      obtain rfl : f = 4 := Option.some.inj ((show Tryd.prog.funcNamed "penumbra/penumbralaw48.MergeMats" = some 4 by kernel_rfl).symm.trans hf) |>.symm
      obtain rfl : fn = Tryd.f4 := (Option.some.inj (Tryd.func4.symm.trans hfn)).symm
      exact ⟨by kernel_rfl, fun j t ht => by
        have h := List.all_eq_true.1 plainTypes t (List.mem_of_getElem? (by rw [Array.getElem?_toList]; exact ht))
        have h2 : Tryd.prog.wantsStandIn t = false := by simpa using h
        exact h2⟩)
    (by kernel_rfl)
end Go.Proofs.YtdcdmooafepbiaaDoor.MergeMats
namespace Go.Proofs.YtdcdmooafepbiaaDoor
theorem mergeMats_holds : Rows.MergeMatsCardSaid := MergeMats.card
#print axioms mergeMats_holds
end Go.Proofs.YtdcdmooafepbiaaDoor
