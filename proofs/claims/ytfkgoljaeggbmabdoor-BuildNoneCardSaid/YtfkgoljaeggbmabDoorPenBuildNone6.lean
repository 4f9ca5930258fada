/- For every input the law BuildNone returns true, and each argument reads behind the call as it read before: the program's text is told by a model (proved to be what the text does), and the model is true of all data; the listed variable is tied to the program's text. -/
import Derived.Test.YtfkgoljaeggbmabDoorTie
import Derived.Test.YtfkgoljaeggbmabDoorCards
import Derived.SevenTiedAt
import Derived.KernelRfl
import Derived.Test.YtfkgoljaeggbmabDoorPenKit0
import Derived.Test.YtfkgoljaeggbmabDoorPenKit1
import Derived.Test.YtfkgoljaeggbmabDoorPenKit2
import Derived.Test.YtfkgoljaeggbmabDoorPenBuildNone3
import Derived.Test.YtfkgoljaeggbmabDoorPenKit4
import Derived.Test.YtfkgoljaeggbmabDoorPenBuildNone5
namespace Go.Proofs.YtfkgoljaeggbmabDoor.BuildNone
open Go Go.Proofs Go.Proofs.Pen

theorem own : ownKnob Tryd.prog.godebug = none := by kernel_rfl
theorem laidOut : laidOutB Tryd.prog = true := by kernel_rfl

theorem lifted (os : Os) (started : os.Started) (H : Type) (enc : TypeId × Value → H) :
    ReturnsInHanded {} Tryd.checked os 7 .any (fun w args => (Rows.buildNoneSpec.pre enc Tryd.prog Tryd.f7 Rows.buildNoneRow.domain false w args ∧ laidMetH Tryd.prog doorL w) ∧ sizedMet enc Tryd.prog Tryd.f7 (OpenSpec.ofChange Rows.buildNoneSpec) false w args) (Rows.buildNoneSpec.post enc Tryd.prog Tryd.f7 false true false false) :=
  law_lifted_laid (C := Tryd.checked) (L := doorL) (tb := 4) (tys := [(.st (.pair TI (.pair TI (.pair TI (.pair TI (.pair (.st (.pair TI (.pair TI TI))) (.pair (.st (.pair TI (.pair TI TI))) (.pair (.st (.pair (.st (.pair TI (.pair TI TI))) (.pair (.st (.pair TI (.pair TI TI))) (.pair (.st (.pair TI (.pair TI TI))) (.st (.pair TI (.pair TI TI))))))) (.pair (.st (.pair (.st (.pair TI (.pair TI TI))) (.pair (.st (.pair TI (.pair TI TI))) TI))) (.sl (.st (.pair TI (.pair TI TI)))))))))))))]) (law := fun x => .opt (law47_BuildNone x) .ret) own started (by kernel_rfl) Tryd.func7
    (ChangeSpec.witness_at (enc := enc) (C := Tryd.checked) (os := os) (X := fun w _ => laidMetH Tryd.prog doorL w) false (doorWorld os) #[.agg #[.int .i64 0, .int .i64 0, .int .i64 0, .int .i64 0, .int .i64 0, .int .i64 0, .int .i64 0, .int .i64 0, .int .i64 0, .int .i64 0, .int .i64 0, .int .i64 0, .int .i64 0, .int .i64 0, .int .i64 0, .int .i64 0, .int .i64 0, .int .i64 0, .int .i64 0, .int .i64 0, .int .i64 0, .int .i64 0, .int .i64 0, .int .i64 0, .int .i64 0, .int .i64 0, .int .i64 0, .int .i64 0, .int .i64 0, .slice none 0 0]] 8 rfl (by kernel_rfl) (by kernel_rfl) (by kernel_rfl) (by kernel_rfl) (by kernel_rfl) (doorWorld_met os _))
    laidOut (by kernel_rfl) (by kernel_rfl) (by kernel_rfl) rfl Tryd.underlying4 law47_BuildNone.ok
    (fun x hx => by
      have h : (law47_BuildNone.t x).run = some true := buildNone_plain x hx
      show (T.opt (law47_BuildNone.t x).run T.ret).run = some true
      rw [h]; rfl)
    rfl door_glob (fun ds h => by
      have h : ds.length = 1 := h
      match ds, h with
      | [_], _ => rfl)

theorem over : Rows.buildNoneRow.holds Tryd.pinned (OpenSpec.ofChange Rows.buildNoneSpec) :=
  OpenClaim.holds_of_wide 7 Tryd.f7 rfl rfl rfl rfl rfl rfl rfl ⟨rfl, rfl, rfl, rfl, rfl⟩ rfl rfl rfl rfl rfl (by kernel_rfl) Tryd.func7 (by kernel_rfl)
    (of_decide_eq_true (by kernel_rfl)) (by unfold Func.isWrapper; first | (rw [if_pos (by decide +kernel)]; kernel_rfl) | (rw [if_neg (by decide +kernel)]; exact ⟨rfl, rfl⟩))
    (fun os started H enc _ => lifted os started H enc)

theorem plainTypes : (Tryd.f7.params.toList.all fun t => !(Tryd.prog.wantsStandIn t)) = true := by kernel_rfl

theorem card : Claim7.holds Tryd.pinned (.plain (OpenSpec.ofChange Rows.buildNoneSpec)) Rows.buildNoneCard :=
  Claim7.holds_tied_plain_at .later [] [.handle] true (true, "d844361a5e218dc9ec4ad5c15381044ba0dbd551b99cc61eb032d968dd7b3b05") true
    over (fun _ h => by cases h) (by kernel_rfl) (fun _ h => by cases h) buildNone_row_tie rfl ⟨rfl, rfl⟩ (by kernel_rfl) rfl
    (fun f fn hf hfn => by
      obtain rfl : f = 7 := Option.some.inj ((show Tryd.prog.funcNamed "penumbra/penumbralaw47.BuildNone" = some 7 by kernel_rfl).symm.trans hf) |>.symm
      obtain rfl : fn = Tryd.f7 := (Option.some.inj (Tryd.func7.symm.trans hfn)).symm
      exact ⟨by kernel_rfl, fun j t ht => by
        have h := List.all_eq_true.1 plainTypes t (List.mem_of_getElem? (by rw [Array.getElem?_toList]; exact ht))
        have h2 : Tryd.prog.wantsStandIn t = false := by simpa using h
        exact h2⟩)
    (by kernel_rfl)
end Go.Proofs.YtfkgoljaeggbmabDoor.BuildNone
namespace Go.Proofs.YtfkgoljaeggbmabDoor
theorem buildNone_holds : Rows.BuildNoneCardSaid := BuildNone.card
#print axioms buildNone_holds
end Go.Proofs.YtfkgoljaeggbmabDoor
