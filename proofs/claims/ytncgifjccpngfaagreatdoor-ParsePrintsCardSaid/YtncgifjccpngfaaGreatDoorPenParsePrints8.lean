/- For every input the law ParsePrints returns true, and each argument reads behind the call as it read before: the program's text is told by a model (proved to be what the text does), and the model is true of all data; the listed variable is tied to the program's text. -/
import Derived.Test.YtncgifjccpngfaaGreatDoorTie
import Derived.Test.YtncgifjccpngfaaGreatDoorCards
import Derived.SevenTiedAt
import Derived.KernelRfl
import Derived.Test.YtncgifjccpngfaaGreatDoorPenKit0
import Derived.Test.YtncgifjccpngfaaGreatDoorPenKit1
import Derived.Test.YtncgifjccpngfaaGreatDoorPenKit2
import Derived.Test.YtncgifjccpngfaaGreatDoorPenKit3
import Derived.Test.YtncgifjccpngfaaGreatDoorPenParsePrints4
import Derived.Test.YtncgifjccpngfaaGreatDoorPenParsePrints5
import Derived.Test.YtncgifjccpngfaaGreatDoorPenParsePrints6
import Derived.Test.YtncgifjccpngfaaGreatDoorPenParsePrints7
namespace Go.Proofs.YtncgifjccpngfaaGreatDoor.ParsePrints
open Go Go.Proofs Go.Proofs.Pen

theorem own : ownKnob Tryz.prog.godebug = none := by kernel_rfl
theorem laidOut : laidOutB Tryz.prog = true := by kernel_rfl

theorem lifted (os : Os) (started : os.Started) (H : Type) (enc : TypeId × Value → H) :
    ReturnsInHanded {} Tryz.checked os 6 .any (fun w args => (Rows.parsePrintsSpec.pre enc Tryz.prog Tryz.f6 Rows.parsePrintsRow.domain false w args ∧ laidMetH Tryz.prog doorL w) ∧ sizedMet enc Tryz.prog Tryz.f6 (OpenSpec.ofChange Rows.parsePrintsSpec) false w args) (Rows.parsePrintsSpec.post enc Tryz.prog Tryz.f6 false true false false) :=
  law_lifted_laid (C := Tryz.checked) (L := doorL) (tb := 4) (tys := [(.st (.pair (.sl (.st (.pair (.st (.pair TI (.pair TI TI))) (.pair (.st (.pair TI (.pair TI TI))) TI)))) (.pair (.sl (.st (.pair (.st (.pair TI (.pair TI TI))) (.pair (.st (.pair TI (.pair TI TI))) (.pair (.st (.pair TI (.pair TI TI))) TI))))) (.pair (.sl (.st (.pair TI (.st (.pair TI (.pair TI TI)))))) (.pair TI (.pair (.sl (.st (.pair TI (.pair TI TI)))) (.pair (.st (.pair (.st (.pair TI (.pair TI TI))) (.pair (.st (.pair TI (.pair TI TI))) (.pair (.st (.pair TI (.pair TI TI))) (.pair TI (.pair TI TI)))))) (.pair TI TI))))))))]) (law := fun x => .opt (law24_ParsePrints x) .ret) own started (by kernel_rfl) Tryz.func6
    (ChangeSpec.witness_at (enc := enc) (C := Tryz.checked) (os := os) (X := fun w _ => laidMetH Tryz.prog doorL w) false (doorWorld os) #[.agg #[.slice none 0 0, .slice none 0 0, .slice none 0 0, .int .i64 0, .slice none 0 0, .int .i64 0, .int .i64 0, .int .i64 0, .int .i64 0, .int .i64 0, .int .i64 0, .int .i64 0, .int .i64 0, .int .i64 0, .int .i64 0, .int .i64 0, .int .i64 0, .int .i64 0, .int .i64 0]] 8 (by first | exact doorWorld_os os | exact World.laidAll_os _ _ _ | exact World.layVars_os _ _ _ | rfl) (by kernel_rfl) (by kernel_rfl) (by kernel_rfl) (by kernel_rfl) (by kernel_rfl) (doorWorld_met os _))
    laidOut (by kernel_rfl) (by kernel_rfl) (by kernel_rfl) rfl Tryz.underlying4 law24_ParsePrints.ok
    (fun x hx => by
      have h : (law24_ParsePrints.t x).run = some true := ParsePrints_all x hx
      show (T.opt (law24_ParsePrints.t x).run T.ret).run = some true
      rw [h]; rfl)
    rfl door_glob (fun ds h => by
      have h : ds.length = 1 := h
      match ds, h with
      | [_], _ => rfl)

theorem over : Rows.parsePrintsRow.holds Tryz.pinned (OpenSpec.ofChange Rows.parsePrintsSpec) :=
  OpenClaim.holds_of_wide 6 Tryz.f6 rfl rfl rfl rfl rfl rfl rfl ⟨rfl, rfl, rfl, rfl, rfl⟩ rfl rfl rfl rfl rfl (by kernel_rfl) Tryz.func6 (by kernel_rfl)
    (of_decide_eq_true (by kernel_rfl)) (by unfold Func.isWrapper; first | (rw [if_pos (by decide +kernel)]; kernel_rfl) | (rw [if_neg (by decide +kernel)]; exact ⟨rfl, rfl⟩))
    (fun os started H enc _ => lifted os started H enc)

theorem plainTypes : (Tryz.f6.params.toList.all fun t => !(Tryz.prog.wantsStandIn t)) = true := by kernel_rfl

theorem card : Claim7.holds Tryz.pinned (.plain (OpenSpec.ofChange Rows.parsePrintsSpec)) Rows.parsePrintsCard :=
  Claim7.holds_tied_plain_at .later [] [.data, .handle, .pinned] true (true, "6c78e171e27a196a74f523619e9da934a53ef0cf9e14f459a8695a471ed9f40b") true
    over (fun _ h => by cases h) (by kernel_rfl) (fun _ h => by cases h) parsePrints_row_tie rfl ⟨rfl, rfl⟩ (by kernel_rfl) rfl
    (fun f fn hf hfn => by
      obtain rfl : f = 6 := Option.some.inj ((show Tryz.prog.funcNamed "penumbra/penumbralaw24.ParsePrints" = some 6 by kernel_rfl).symm.trans hf) |>.symm
      obtain rfl : fn = Tryz.f6 := (Option.some.inj (Tryz.func6.symm.trans hfn)).symm
      exact ⟨by kernel_rfl, fun j t ht => by
        have h := List.all_eq_true.1 plainTypes t (List.mem_of_getElem? (by rw [Array.getElem?_toList]; exact ht))
        have h2 : Tryz.prog.wantsStandIn t = false := by simpa using h
        exact h2⟩)
    (by kernel_rfl)
end Go.Proofs.YtncgifjccpngfaaGreatDoor.ParsePrints
namespace Go.Proofs.YtncgifjccpngfaaGreatDoor
theorem parsePrints_holds : Rows.ParsePrintsCardSaid := ParsePrints.card
#print axioms parsePrints_holds
end Go.Proofs.YtncgifjccpngfaaGreatDoor
