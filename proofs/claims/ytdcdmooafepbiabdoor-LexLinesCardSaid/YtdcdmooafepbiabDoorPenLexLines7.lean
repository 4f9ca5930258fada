/- For every input the law LexLines returns true, and each argument reads behind the call as it read before: the program's text is told by a model (proved to be what the text does), and the model is true of all data; the listed variable is tied to the program's text. -/
import Derived.Test.YtdcdmooafepbiabDoorTie
import Derived.Test.YtdcdmooafepbiabDoorCards
import Derived.SevenTiedAt
import Derived.KernelRfl
import Derived.Test.YtdcdmooafepbiabDoorPenKit0
import Derived.Test.YtdcdmooafepbiabDoorPenKit1
import Derived.Test.YtdcdmooafepbiabDoorPenKit2
import Derived.Test.YtdcdmooafepbiabDoorPenKit3
import Derived.Test.YtdcdmooafepbiabDoorPenLexLines4
import Derived.Test.YtdcdmooafepbiabDoorPenKit5
import Derived.Test.YtdcdmooafepbiabDoorPenLexLines6
namespace Go.Proofs.YtdcdmooafepbiabDoor.LexLines
open Go Go.Proofs Go.Proofs.Pen

theorem own : ownKnob Tryd.prog.godebug = none := by kernel_rfl
theorem laidOut : laidOutB Tryd.prog = true := by kernel_rfl

theorem lifted (os : Os) (started : os.Started) (H : Type) (enc : TypeId × Value → H) :
    ReturnsInHanded {} Tryd.checked os 6 .any (fun w args => (Rows.lexLinesSpec.pre enc Tryd.prog Tryd.f6 Rows.lexLinesRow.domain false w args ∧ laidMetH Tryd.prog doorL w) ∧ sizedMet enc Tryd.prog Tryd.f6 (OpenSpec.ofChange Rows.lexLinesSpec) false w args) (Rows.lexLinesSpec.post enc Tryd.prog Tryd.f6 false true false false) :=
  law_lifted_laid (C := Tryd.checked) (L := doorL) (tb := 4) (tys := [.str]) (law := fun x => .opt (law23_LexLines x) .ret) own started (by kernel_rfl) Tryd.func6
    (ChangeSpec.witness_at (enc := enc) (C := Tryd.checked) (os := os) (X := fun w _ => laidMetH Tryd.prog doorL w) false (doorWorld os) #[.string ByteArray.empty] 8 (by first | exact World.laidAll_os _ _ _ | rfl) (by kernel_rfl) (by kernel_rfl) (by kernel_rfl) (by kernel_rfl) (by kernel_rfl) (doorWorld_met os _))
    laidOut (by kernel_rfl) (by kernel_rfl) (by kernel_rfl) rfl Tryd.underlying4 law23_LexLines.ok
    (fun x hx => by
      have h : (law23_LexLines.t x).run = some true := LexLines_all x hx
      show (T.opt (law23_LexLines.t x).run T.ret).run = some true
      rw [h]; rfl)
    rfl door_glob (fun ds h => by
      have h : ds.length = 1 := h
      match ds, h with
      | [_], _ => rfl)

theorem over : Rows.lexLinesRow.holds Tryd.pinned (OpenSpec.ofChange Rows.lexLinesSpec) :=
  OpenClaim.holds_of_wide 6 Tryd.f6 rfl rfl rfl rfl rfl rfl rfl ⟨rfl, rfl, rfl, rfl, rfl⟩ rfl rfl rfl rfl rfl (by kernel_rfl) Tryd.func6 (by kernel_rfl)
    (of_decide_eq_true (by kernel_rfl)) (by unfold Func.isWrapper; first | (rw [if_pos (by decide +kernel)]; kernel_rfl) | (rw [if_neg (by decide +kernel)]; exact ⟨rfl, rfl⟩))
    (fun os started H enc _ => lifted os started H enc)

theorem plainTypes : (Tryd.f6.params.toList.all fun t => !(Tryd.prog.wantsStandIn t)) = true := by kernel_rfl

theorem card : Claim7.holds Tryd.pinned (.plain (OpenSpec.ofChange Rows.lexLinesSpec)) Rows.lexLinesCard :=
  Claim7.holds_tied_plain_at .later [] [.data, .pinned] true (true, "3ee0617b286519b93c00cc4bf53a23f9bcc9031ba0109d7fd49143d89175c228") false
    over (fun _ h => by cases h) (by kernel_rfl) (fun _ h => by cases h) lexLines_row_tie rfl ⟨rfl, rfl⟩ (by kernel_rfl) rfl
    (fun f fn hf hfn => by
      obtain rfl : f = 6 := Option.some.inj ((show Tryd.prog.funcNamed "penumbra/penumbralaw23.LexLines" = some 6 by kernel_rfl).symm.trans hf) |>.symm
      obtain rfl : fn = Tryd.f6 := (Option.some.inj (Tryd.func6.symm.trans hfn)).symm
      exact ⟨by kernel_rfl, fun j t ht => by
        have h := List.all_eq_true.1 plainTypes t (List.mem_of_getElem? (by rw [Array.getElem?_toList]; exact ht))
        have h2 : Tryd.prog.wantsStandIn t = false := by simpa using h
        exact h2⟩)
    (by kernel_rfl)
end Go.Proofs.YtdcdmooafepbiabDoor.LexLines
namespace Go.Proofs.YtdcdmooafepbiabDoor
theorem lexLines_holds : Rows.LexLinesCardSaid := LexLines.card
#print axioms lexLines_holds
end Go.Proofs.YtdcdmooafepbiabDoor
