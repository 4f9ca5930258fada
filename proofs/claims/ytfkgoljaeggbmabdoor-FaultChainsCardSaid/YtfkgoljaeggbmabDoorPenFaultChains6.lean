/- For every input the law FaultChains returns true, and each argument reads behind the call as it read before: the program's text is told by a model (proved to be what the text does), and the model is true of all data; the listed variable is tied to the program's text. -/
import Derived.Test.YtfkgoljaeggbmabDoorTie
import Derived.Test.YtfkgoljaeggbmabDoorCards
import Derived.SevenTiedAt
import Derived.KernelRfl
import Derived.Test.YtfkgoljaeggbmabDoorPenKit0
import Derived.Test.YtfkgoljaeggbmabDoorPenKit1
import Derived.Test.YtfkgoljaeggbmabDoorPenKit2
import Derived.Test.YtfkgoljaeggbmabDoorPenFaultChains3
import Derived.Test.YtfkgoljaeggbmabDoorPenKit4
import Derived.Test.YtfkgoljaeggbmabDoorPenFaultChains5
namespace Go.Proofs.YtfkgoljaeggbmabDoor.FaultChains
open Go Go.Proofs Go.Proofs.Pen

theorem own : ownKnob Tryd.prog.godebug = none := by kernel_rfl
theorem laidOut : laidOutB Tryd.prog = true := by kernel_rfl

theorem lifted (os : Os) (started : os.Started) (H : Type) (enc : TypeId × Value → H) :
    ReturnsInHanded {} Tryd.checked os 4 .any (fun w args => (Rows.faultChainsSpec.pre enc Tryd.prog Tryd.f4 Rows.faultChainsRow.domain false w args ∧ laidMetH Tryd.prog doorL w) ∧ sizedMet enc Tryd.prog Tryd.f4 (OpenSpec.ofChange Rows.faultChainsSpec) false w args) (Rows.faultChainsSpec.post enc Tryd.prog Tryd.f4 false true false false) :=
  law_lifted_laid (C := Tryd.checked) (L := doorL) (tb := 4) (tys := [(.sl (.st (.pair TI TI)))]) (law := fun x => .opt (law01_FaultChains x) .ret) own started (by kernel_rfl) Tryd.func4
    (ChangeSpec.witness_at (enc := enc) (C := Tryd.checked) (os := os) (X := fun w _ => laidMetH Tryd.prog doorL w) false (doorWorld os) #[.slice none 0 0] 8 rfl (by kernel_rfl) (by kernel_rfl) (by kernel_rfl) (by kernel_rfl) (by kernel_rfl) (doorWorld_met os _))
    laidOut (by kernel_rfl) (by kernel_rfl) (by kernel_rfl) rfl Tryd.underlying4 law01_FaultChains.ok
    (fun x hx => by
      have h : (law01_FaultChains.t x).run = some true := faultChains_plain x hx
      show (T.opt (law01_FaultChains.t x).run T.ret).run = some true
      rw [h]; rfl)
    rfl door_glob (fun ds h => by
      have h : ds.length = 1 := h
      match ds, h with
      | [_], _ => rfl)

theorem over : Rows.faultChainsRow.holds Tryd.pinned (OpenSpec.ofChange Rows.faultChainsSpec) :=
  OpenClaim.holds_of_wide 4 Tryd.f4 rfl rfl rfl rfl rfl rfl rfl ⟨rfl, rfl, rfl, rfl, rfl⟩ rfl rfl rfl rfl rfl (by kernel_rfl) Tryd.func4 (by kernel_rfl)
    (of_decide_eq_true (by kernel_rfl)) (by unfold Func.isWrapper; first | (rw [if_pos (by decide +kernel)]; kernel_rfl) | (rw [if_neg (by decide +kernel)]; exact ⟨rfl, rfl⟩))
    (fun os started H enc _ => lifted os started H enc)

theorem plainTypes : (Tryd.f4.params.toList.all fun t => !(Tryd.prog.wantsStandIn t)) = true := by kernel_rfl

theorem card : Claim7.holds Tryd.pinned (.plain (OpenSpec.ofChange Rows.faultChainsSpec)) Rows.faultChainsCard :=
  Claim7.holds_tied_plain_at .later [] [.handle] true (true, "d844361a5e218dc9ec4ad5c15381044ba0dbd551b99cc61eb032d968dd7b3b05") true
    over (fun _ h => by cases h) (by kernel_rfl) (fun _ h => by cases h) faultChains_row_tie rfl ⟨rfl, rfl⟩ (by kernel_rfl) rfl
    (fun f fn hf hfn => by
      obtain rfl : f = 4 := Option.some.inj ((show Tryd.prog.funcNamed "penumbra/penumbralaw01.FaultChains" = some 4 by kernel_rfl).symm.trans hf) |>.symm
      obtain rfl : fn = Tryd.f4 := (Option.some.inj (Tryd.func4.symm.trans hfn)).symm
      exact ⟨by kernel_rfl, fun j t ht => by
        have h := List.all_eq_true.1 plainTypes t (List.mem_of_getElem? (by rw [Array.getElem?_toList]; exact ht))
        have h2 : Tryd.prog.wantsStandIn t = false := by simpa using h
        exact h2⟩)
    (by kernel_rfl)
end Go.Proofs.YtfkgoljaeggbmabDoor.FaultChains
namespace Go.Proofs.YtfkgoljaeggbmabDoor
theorem faultChains_holds : Rows.FaultChainsCardSaid := FaultChains.card
#print axioms faultChains_holds
end Go.Proofs.YtfkgoljaeggbmabDoor
