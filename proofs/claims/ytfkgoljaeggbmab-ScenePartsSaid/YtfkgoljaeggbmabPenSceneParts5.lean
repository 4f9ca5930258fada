/- A part of the proof that the law SceneParts is true of every input: models of the functions that the law reaches, and what holds of them. -/
import Derived.Test.YtfkgoljaeggbmabChecked
import Derived.KernelRfl
import Derived.Test.YtfkgoljaeggbmabPenKit0
import Derived.Test.YtfkgoljaeggbmabPenKit1
import Derived.Test.YtfkgoljaeggbmabPenKit2
import Derived.Test.YtfkgoljaeggbmabPenSceneParts3
import Derived.Test.YtfkgoljaeggbmabPenKit4
namespace Go.Proofs.Pen
open Go Go.Proofs
abbrev TI : Ty := (.int .i64)
abbrev TV : Ty := (.st (.pair .flt (.pair .flt .flt)))
abbrev TP : Ty := (.st (.pair (.int .i64) (.pair (.int .i64) (.int .i64))))
abbrev TLitD : Ty := (.st (.pair (.int .i64) (.st (.pair (.int .i64) (.pair (.int .i64) (.int .i64))))))
abbrev TMatD : Ty := (.st (.pair (.st (.pair (.int .i64) (.pair (.int .i64) (.int .i64)))) (.pair (.st (.pair (.int .i64) (.pair (.int .i64) (.int .i64)))) (.int .i64))))
abbrev TTriD : Ty := (.st (.pair (.st (.pair (.int .i64) (.pair (.int .i64) (.int .i64)))) (.pair (.st (.pair (.int .i64) (.pair (.int .i64) (.int .i64)))) (.pair (.st (.pair (.int .i64) (.pair (.int .i64) (.int .i64)))) (.int .i64)))))
theorem mixed : Try.prog.follows .mixedOrders = true := by kernel_rfl
theorem x139 : ExOK Try.prog 139 (typeOfAV 218 Try.prog.globals.size) := typeOf_ok (by intros; kernel_rfl) (by intros; kernel_rfl)
theorem x177 : ExOK Try.prog 177 (comparableAV Try.prog.globals.size [28]) := comparable_ok (by intro t h w; rw [show t = 28 by simpa using h]; kernel_rfl)
noncomputable def Xs : Nat → List AV → T AV := ext (ext noQ 139 (typeOfAV 218 Try.prog.globals.size)) 177 (comparableAV Try.prog.globals.size [28])
theorem Xok : QuietOK Try.prog Xs := quiet_extE (quiet_extE (quiet_none _) x139) x177
end Go.Proofs.Pen

namespace Go.Proofs.Pen
open Go Go.Proofs
noncomputable def law22_Light.t (x : ((List ((Int × Int × Int) × (Int × Int × Int) × Int)) × (List ((Int × Int × Int) × (Int × Int × Int) × (Int × Int × Int) × Int)) × (List (Int × Int × Int × Int)) × Int × (List (Int × Int × Int)) × ((Int × Int × Int) × (Int × Int × Int) × (Int × Int × Int) × Int × Int × Int) × Int × Int)) : T (Bool) := T.ret (decide ((↑(List.length x.1) : Int) ≤ 40) && decide ((↑(List.length x.2.1) : Int) ≤ 60) && decide ((↑(List.length x.2.2.1) : Int) ≤ 60) && decide ((↑(List.length x.2.2.2.2.1) : Int) ≤ 200))
noncomputable def law22_Light.q : List AV → T AV := entry [(.st (.pair (.sl TMatD) (.pair (.sl TTriD) (.pair (.sl TLitD) (.pair TI (.pair (.sl TP) (.pair (.st (.pair TP (.pair TP (.pair TP (.pair TI (.pair TI TI)))))) (.pair TI TI))))))))] (outR [.bool]) law22_Light.t
theorem law22_Light.ok : FnOK Try.prog 34 law22_Light.q :=
  entry_in (ps := [(.st (.pair (.sl TMatD) (.pair (.sl TTriD) (.pair (.sl TLitD) (.pair TI (.pair (.sl TP) (.pair (.st (.pair TP (.pair TP (.pair TP (.pair TI (.pair TI TI)))))) (.pair TI TI))))))))]) (rs := [.bool]) (F := ({ quiet := noQ, deep := noDeep } : Fns)) (D := D0) (S := tabS []) (t := law22_Light.t) mixed (quiet_none _) (deep_none _) Try.func34 (by kernel_rfl) (sok_fn trivial) (by kernel_rfl) (fun x => by kernel_rfl)
end Go.Proofs.Pen

namespace Go.Proofs.Pen
open Go Go.Proofs
set_option maxRecDepth 100000
noncomputable def law22_awake.t (_ : Unit) : T (Bool) := T.ret true
noncomputable def law22_awake.q : List AV → T AV := entry [] (outR [.bool]) fun _ => .ret (true : dens [.bool])
theorem law22_awake.ok : FnOK Try.prog 35 law22_awake.q := pe_entry mixed Xok 100 20 Try.func35 (by kernel_rfl) (by kernel_rfl)
end Go.Proofs.Pen

namespace Go.Proofs.Pen
open Go Go.Proofs
noncomputable def scene_Number.t (x : Int) : T ((Option Nat)) := T.ret (fop BinOp.quo (some (FloatKind.f64.nearest x)) (some 4652218415073722368))
noncomputable def scene_Number.q : List AV → T AV := entry [TI] (outR [.flt]) scene_Number.t
theorem scene_Number.ok : FnOK Try.prog 45 scene_Number.q :=
  entry_in (ps := [TI]) (rs := [.flt]) (F := ({ quiet := noQ, deep := noDeep } : Fns)) (D := D0) (S := tabS []) (t := scene_Number.t) mixed (quiet_none _) (deep_none _) Try.func45 (by kernel_rfl) (sok_fn trivial) (by kernel_rfl) (fun x => by kernel_rfl)
end Go.Proofs.Pen

namespace Go.Proofs.Pen
open Go Go.Proofs
noncomputable def scene_Vec.t (x : (Int × Int × Int)) : T ((Option Nat × Option Nat × Option Nat)) := T.ret (fop BinOp.quo (some (FloatKind.f64.nearest x.1)) (some 4652218415073722368), fop BinOp.quo (some (FloatKind.f64.nearest x.2.1)) (some 4652218415073722368), fop BinOp.quo (some (FloatKind.f64.nearest x.2.2)) (some 4652218415073722368))
noncomputable def scene_Vec.q : List AV → T AV := entry [TP] (outR [TV]) scene_Vec.t
theorem scene_Vec.ok : FnOK Try.prog 42 scene_Vec.q :=
  entry_in (ps := [TP]) (rs := [TV]) (F := ({ quiet := (ext noQ 45 scene_Number.q), deep := noDeep } : Fns)) (D := D0) (S := tabS []) (t := scene_Vec.t) mixed (quiet_ext (quiet_none _) scene_Number.ok) (deep_none _) Try.func42 (by kernel_rfl) (sok_fn trivial) (by kernel_rfl) (fun x => by kernel_rfl)
end Go.Proofs.Pen

namespace Go.Proofs.Pen
open Go Go.Proofs
def scene_Tris.L0 : List (Nat × Lay) := [(3, .row (.st (.pair TV (.pair TV TV)))), (7, .val (.sl TTriD)), (8, .val TI), (9, .val TI)]
noncomputable def scene_Tris.t0 (x : List ((Option Nat × Option Nat × Option Nat) × (Option Nat × Option Nat × Option Nat) × Option Nat × Option Nat × Option Nat) × (List ((Int × Int × Int) × (Int × Int × Int) × (Int × Int × Int) × Int)) × Int × Int × Unit) : T (Ex × List ((Option Nat × Option Nat × Option Nat) × (Option Nat × Option Nat × Option Nat) × Option Nat × Option Nat × Option Nat) × (List ((Int × Int × Int) × (Int × Int × Int) × (Int × Int × Int) × Int)) × Int × Int × Unit) := T.ite (decide (x.2.2.2.1 < x.2.2.1)) (T.opt (lget x.2.1 x.2.2.2.1) fun y => T.ite (decide ((x.1.length + 1) * 72 ≤ most)) (T.ret (Ex.normal, List.take (x.1.length + 1) (List.take x.1.length x.1 ++ [((fop BinOp.quo (some (FloatKind.f64.nearest y.1.1)) (some 4652218415073722368), fop BinOp.quo (some (FloatKind.f64.nearest y.1.2.1)) (some 4652218415073722368), fop BinOp.quo (some (FloatKind.f64.nearest y.1.2.2)) (some 4652218415073722368)), (fop BinOp.quo (some (FloatKind.f64.nearest y.2.1.1)) (some 4652218415073722368), fop BinOp.quo (some (FloatKind.f64.nearest y.2.1.2.1)) (some 4652218415073722368), fop BinOp.quo (some (FloatKind.f64.nearest y.2.1.2.2)) (some 4652218415073722368)), fop BinOp.quo (some (FloatKind.f64.nearest y.2.2.1.1)) (some 4652218415073722368), fop BinOp.quo (some (FloatKind.f64.nearest y.2.2.1.2.1)) (some 4652218415073722368), fop BinOp.quo (some (FloatKind.f64.nearest y.2.2.1.2.2)) (some 4652218415073722368))]), x.2.1, x.2.2.1, W (x.2.2.2.1 + 1), ())) T.fail) (T.ret (Ex.exit 0, List.take x.1.length x.1, x.2.1, x.2.2.1, x.2.2.2.1, ()))
noncomputable def scene_Tris.l0 (x : List ((Option Nat × Option Nat × Option Nat) × (Option Nat × Option Nat × Option Nat) × Option Nat × Option Nat × Option Nat) × (List ((Int × Int × Int) × (Int × Int × Int) × (Int × Int × Int) × Int)) × Int × Int × Unit) : Option (Ex × List ((Option Nat × Option Nat × Option Nat) × (Option Nat × Option Nat × Option Nat) × Option Nat × Option Nat × Option Nat) × (List ((Int × Int × Int) × (Int × Int × Int) × (Int × Int × Int) × Int)) × Int × Int × Unit) := (iterT scene_Tris.t0 rounds x).run
theorem scene_Tris.k0 : bodies 0 (lp Try.f36 []) = [.loop (loopIn 0 (lp Try.f36 []))] ∧ WP Try.prog 0 (.block 0 (.loop (loopIn 0 (lp Try.f36 [])))) (loopS scene_Tris.L0 28 0 [.exit 0] scene_Tris.l0) :=
  loop_tree (L := scene_Tris.L0) (F := ({ quiet := (ext noQ 42 scene_Vec.q), deep := noDeep } : Fns)) (D := D0) (tab := []) (t := scene_Tris.t0) mixed (quiet_ext (quiet_none _) scene_Vec.ok) (deep_none _) (fun _ => rfl) (by kernel_rfl) (by kernel_rfl) trivial (fun x => by kernel_rfl)
noncomputable def scene_Tris.t (x : ((List ((Int × Int × Int) × (Int × Int × Int) × Int)) × (List ((Int × Int × Int) × (Int × Int × Int) × (Int × Int × Int) × Int)) × (List (Int × Int × Int × Int)) × Int × (List (Int × Int × Int)) × ((Int × Int × Int) × (Int × Int × Int) × (Int × Int × Int) × Int × Int × Int) × Int × Int)) : T ((List ((Option Nat × Option Nat × Option Nat) × (Option Nat × Option Nat × Option Nat) × Option Nat × Option Nat × Option Nat))) := T.opt (scene_Tris.l0 ([], x.2.1, (↑(List.length x.2.1) : Int), 0, ())) fun y => T.ite (exEq y.1 (Ex.exit 0)) (T.ret (List.take y.2.1.length y.2.1)) T.fail
noncomputable def scene_Tris (x : ((List ((Int × Int × Int) × (Int × Int × Int) × Int)) × (List ((Int × Int × Int) × (Int × Int × Int) × (Int × Int × Int) × Int)) × (List (Int × Int × Int × Int)) × Int × (List (Int × Int × Int)) × ((Int × Int × Int) × (Int × Int × Int) × (Int × Int × Int) × Int × Int × Int) × Int × Int)) : Option ((List ((Option Nat × Option Nat × Option Nat) × (Option Nat × Option Nat × Option Nat) × Option Nat × Option Nat × Option Nat))) := (scene_Tris.t x).run
noncomputable def scene_Tris.q : List AV → T AV := entry [(.st (.pair (.sl TMatD) (.pair (.sl TTriD) (.pair (.sl TLitD) (.pair TI (.pair (.sl TP) (.pair (.st (.pair TP (.pair TP (.pair TP (.pair TI (.pair TI TI)))))) (.pair TI TI))))))))] (outR [(.sl (.st (.pair TV (.pair TV TV))))]) fun x => .opt (scene_Tris x) .ret
theorem scene_Tris.ok : FnOK Try.prog 36 scene_Tris.q :=
  entry_call (ps := [(.st (.pair (.sl TMatD) (.pair (.sl TTriD) (.pair (.sl TLitD) (.pair TI (.pair (.sl TP) (.pair (.st (.pair TP (.pair TP (.pair TP (.pair TI (.pair TI TI)))))) (.pair TI TI))))))))]) (rs := [(.sl (.st (.pair TV (.pair TV TV))))]) (F := ({ quiet := (ext noQ 42 scene_Vec.q), deep := noDeep } : Fns)) (D := D0) (S := tabS [(0, loopS scene_Tris.L0 28 0 [.exit 0] scene_Tris.l0)]) (t := scene_Tris.t) mixed (quiet_ext (quiet_none _) scene_Vec.ok) (deep_none _) Try.func36 (by kernel_rfl) (sok_fn ⟨scene_Tris.k0, trivial⟩) (by kernel_rfl) (fun x => by kernel_rfl)
end Go.Proofs.Pen

namespace Go.Proofs.Pen
open Go Go.Proofs
noncomputable def scene_Colour.t (x : (Int × Int × Int)) : T ((Option Nat × Option Nat × Option Nat)) := T.ret (fop BinOp.quo (some (FloatKind.f64.nearest x.1)) (some 4652218415073722368), fop BinOp.quo (some (FloatKind.f64.nearest x.2.1)) (some 4652218415073722368), fop BinOp.quo (some (FloatKind.f64.nearest x.2.2)) (some 4652218415073722368))
noncomputable def scene_Colour.q : List AV → T AV := entry [TP] (outR [TV]) scene_Colour.t
theorem scene_Colour.ok : FnOK Try.prog 44 scene_Colour.q :=
  entry_in (ps := [TP]) (rs := [TV]) (F := ({ quiet := (ext noQ 42 scene_Vec.q), deep := noDeep } : Fns)) (D := D0) (S := tabS []) (t := scene_Colour.t) mixed (quiet_ext (quiet_none _) scene_Vec.ok) (deep_none _) Try.func44 (by kernel_rfl) (sok_fn trivial) (by kernel_rfl) (fun x => by kernel_rfl)
end Go.Proofs.Pen

namespace Go.Proofs.Pen
open Go Go.Proofs
def scene_Mats.L0 : List (Nat × Lay) := [(3, .row (.st (.pair TV (.pair TV .flt)))), (7, .val (.sl TMatD)), (8, .val TI), (9, .val TI)]
noncomputable def scene_Mats.t0 (x : List ((Option Nat × Option Nat × Option Nat) × (Option Nat × Option Nat × Option Nat) × Option Nat) × (List ((Int × Int × Int) × (Int × Int × Int) × Int)) × Int × Int × Unit) : T (Ex × List ((Option Nat × Option Nat × Option Nat) × (Option Nat × Option Nat × Option Nat) × Option Nat) × (List ((Int × Int × Int) × (Int × Int × Int) × Int)) × Int × Int × Unit) := T.ite (decide (x.2.2.2.1 < x.2.2.1)) (T.opt (lget x.2.1 x.2.2.2.1) fun y => T.ite (decide ((x.1.length + 1) * 56 ≤ most)) (T.ret (Ex.normal, List.take (x.1.length + 1) (List.take x.1.length x.1 ++ [((fop BinOp.quo (some (FloatKind.f64.nearest y.1.1)) (some 4652218415073722368), fop BinOp.quo (some (FloatKind.f64.nearest y.1.2.1)) (some 4652218415073722368), fop BinOp.quo (some (FloatKind.f64.nearest y.1.2.2)) (some 4652218415073722368)), (fop BinOp.quo (some (FloatKind.f64.nearest y.2.1.1)) (some 4652218415073722368), fop BinOp.quo (some (FloatKind.f64.nearest y.2.1.2.1)) (some 4652218415073722368), fop BinOp.quo (some (FloatKind.f64.nearest y.2.1.2.2)) (some 4652218415073722368)), fop BinOp.quo (some (FloatKind.f64.nearest y.2.2)) (some 4652218415073722368))]), x.2.1, x.2.2.1, W (x.2.2.2.1 + 1), ())) T.fail) (T.ret (Ex.exit 0, List.take x.1.length x.1, x.2.1, x.2.2.1, x.2.2.2.1, ()))
noncomputable def scene_Mats.l0 (x : List ((Option Nat × Option Nat × Option Nat) × (Option Nat × Option Nat × Option Nat) × Option Nat) × (List ((Int × Int × Int) × (Int × Int × Int) × Int)) × Int × Int × Unit) : Option (Ex × List ((Option Nat × Option Nat × Option Nat) × (Option Nat × Option Nat × Option Nat) × Option Nat) × (List ((Int × Int × Int) × (Int × Int × Int) × Int)) × Int × Int × Unit) := (iterT scene_Mats.t0 rounds x).run
theorem scene_Mats.k0 : bodies 0 (lp Try.f37 []) = [.loop (loopIn 0 (lp Try.f37 []))] ∧ WP Try.prog 0 (.block 0 (.loop (loopIn 0 (lp Try.f37 [])))) (loopS scene_Mats.L0 28 0 [.exit 0] scene_Mats.l0) :=
  loop_tree (L := scene_Mats.L0) (F := ({ quiet := (ext (ext noQ 44 scene_Colour.q) 45 scene_Number.q), deep := noDeep } : Fns)) (D := D0) (tab := []) (t := scene_Mats.t0) mixed (quiet_ext (quiet_ext (quiet_none _) scene_Colour.ok) scene_Number.ok) (deep_none _) (fun _ => rfl) (by kernel_rfl) (by kernel_rfl) trivial (fun x => by kernel_rfl)
noncomputable def scene_Mats.t (x : ((List ((Int × Int × Int) × (Int × Int × Int) × Int)) × (List ((Int × Int × Int) × (Int × Int × Int) × (Int × Int × Int) × Int)) × (List (Int × Int × Int × Int)) × Int × (List (Int × Int × Int)) × ((Int × Int × Int) × (Int × Int × Int) × (Int × Int × Int) × Int × Int × Int) × Int × Int)) : T ((List ((Option Nat × Option Nat × Option Nat) × (Option Nat × Option Nat × Option Nat) × Option Nat))) := T.opt (scene_Mats.l0 ([], x.1, (↑(List.length x.1) : Int), 0, ())) fun y => T.ite (exEq y.1 (Ex.exit 0)) (T.ret (List.take y.2.1.length y.2.1)) T.fail
noncomputable def scene_Mats (x : ((List ((Int × Int × Int) × (Int × Int × Int) × Int)) × (List ((Int × Int × Int) × (Int × Int × Int) × (Int × Int × Int) × Int)) × (List (Int × Int × Int × Int)) × Int × (List (Int × Int × Int)) × ((Int × Int × Int) × (Int × Int × Int) × (Int × Int × Int) × Int × Int × Int) × Int × Int)) : Option ((List ((Option Nat × Option Nat × Option Nat) × (Option Nat × Option Nat × Option Nat) × Option Nat))) := (scene_Mats.t x).run
noncomputable def scene_Mats.q : List AV → T AV := entry [(.st (.pair (.sl TMatD) (.pair (.sl TTriD) (.pair (.sl TLitD) (.pair TI (.pair (.sl TP) (.pair (.st (.pair TP (.pair TP (.pair TP (.pair TI (.pair TI TI)))))) (.pair TI TI))))))))] (outR [(.sl (.st (.pair TV (.pair TV .flt))))]) fun x => .opt (scene_Mats x) .ret
theorem scene_Mats.ok : FnOK Try.prog 37 scene_Mats.q :=
  entry_call (ps := [(.st (.pair (.sl TMatD) (.pair (.sl TTriD) (.pair (.sl TLitD) (.pair TI (.pair (.sl TP) (.pair (.st (.pair TP (.pair TP (.pair TP (.pair TI (.pair TI TI)))))) (.pair TI TI))))))))]) (rs := [(.sl (.st (.pair TV (.pair TV .flt))))]) (F := ({ quiet := (ext (ext noQ 44 scene_Colour.q) 45 scene_Number.q), deep := noDeep } : Fns)) (D := D0) (S := tabS [(0, loopS scene_Mats.L0 28 0 [.exit 0] scene_Mats.l0)]) (t := scene_Mats.t) mixed (quiet_ext (quiet_ext (quiet_none _) scene_Colour.ok) scene_Number.ok) (deep_none _) Try.func37 (by kernel_rfl) (sok_fn ⟨scene_Mats.k0, trivial⟩) (by kernel_rfl) (fun x => by kernel_rfl)
end Go.Proofs.Pen

namespace Go.Proofs.Pen
open Go Go.Proofs
def scene_Emits.L0 : List (Nat × Lay) := [(3, .row (.st (.pair TI TV))), (7, .val (.sl TLitD)), (8, .val TI), (9, .val TI)]
noncomputable def scene_Emits.t0 (x : List (Int × Option Nat × Option Nat × Option Nat) × (List (Int × Int × Int × Int)) × Int × Int × Unit) : T (Ex × List (Int × Option Nat × Option Nat × Option Nat) × (List (Int × Int × Int × Int)) × Int × Int × Unit) := T.ite (decide (x.2.2.2.1 < x.2.2.1)) (T.opt (lget x.2.1 x.2.2.2.1) fun y => T.ite (decide ((x.1.length + 1) * 32 ≤ most)) (T.ret (Ex.normal, List.take (x.1.length + 1) (List.take x.1.length x.1 ++ [(y.1, fop BinOp.quo (some (FloatKind.f64.nearest y.2.1)) (some 4652218415073722368), fop BinOp.quo (some (FloatKind.f64.nearest y.2.2.1)) (some 4652218415073722368), fop BinOp.quo (some (FloatKind.f64.nearest y.2.2.2)) (some 4652218415073722368))]), x.2.1, x.2.2.1, W (x.2.2.2.1 + 1), ())) T.fail) (T.ret (Ex.exit 0, List.take x.1.length x.1, x.2.1, x.2.2.1, x.2.2.2.1, ()))
noncomputable def scene_Emits.l0 (x : List (Int × Option Nat × Option Nat × Option Nat) × (List (Int × Int × Int × Int)) × Int × Int × Unit) : Option (Ex × List (Int × Option Nat × Option Nat × Option Nat) × (List (Int × Int × Int × Int)) × Int × Int × Unit) := (iterT scene_Emits.t0 rounds x).run
theorem scene_Emits.k0 : bodies 0 (lp Try.f38 []) = [.loop (loopIn 0 (lp Try.f38 []))] ∧ WP Try.prog 0 (.block 0 (.loop (loopIn 0 (lp Try.f38 [])))) (loopS scene_Emits.L0 24 0 [.exit 0] scene_Emits.l0) :=
  loop_tree (L := scene_Emits.L0) (F := ({ quiet := (ext noQ 44 scene_Colour.q), deep := noDeep } : Fns)) (D := D0) (tab := []) (t := scene_Emits.t0) mixed (quiet_ext (quiet_none _) scene_Colour.ok) (deep_none _) (fun _ => rfl) (by kernel_rfl) (by kernel_rfl) trivial (fun x => by kernel_rfl)
noncomputable def scene_Emits.t (x : ((List ((Int × Int × Int) × (Int × Int × Int) × Int)) × (List ((Int × Int × Int) × (Int × Int × Int) × (Int × Int × Int) × Int)) × (List (Int × Int × Int × Int)) × Int × (List (Int × Int × Int)) × ((Int × Int × Int) × (Int × Int × Int) × (Int × Int × Int) × Int × Int × Int) × Int × Int)) : T ((List (Int × Option Nat × Option Nat × Option Nat))) := T.opt (scene_Emits.l0 ([], x.2.2.1, (↑(List.length x.2.2.1) : Int), 0, ())) fun y => T.ite (exEq y.1 (Ex.exit 0)) (T.ret (List.take y.2.1.length y.2.1)) T.fail
noncomputable def scene_Emits (x : ((List ((Int × Int × Int) × (Int × Int × Int) × Int)) × (List ((Int × Int × Int) × (Int × Int × Int) × (Int × Int × Int) × Int)) × (List (Int × Int × Int × Int)) × Int × (List (Int × Int × Int)) × ((Int × Int × Int) × (Int × Int × Int) × (Int × Int × Int) × Int × Int × Int) × Int × Int)) : Option ((List (Int × Option Nat × Option Nat × Option Nat))) := (scene_Emits.t x).run
noncomputable def scene_Emits.q : List AV → T AV := entry [(.st (.pair (.sl TMatD) (.pair (.sl TTriD) (.pair (.sl TLitD) (.pair TI (.pair (.sl TP) (.pair (.st (.pair TP (.pair TP (.pair TP (.pair TI (.pair TI TI)))))) (.pair TI TI))))))))] (outR [(.sl (.st (.pair TI TV)))]) fun x => .opt (scene_Emits x) .ret
theorem scene_Emits.ok : FnOK Try.prog 38 scene_Emits.q :=
  entry_call (ps := [(.st (.pair (.sl TMatD) (.pair (.sl TTriD) (.pair (.sl TLitD) (.pair TI (.pair (.sl TP) (.pair (.st (.pair TP (.pair TP (.pair TP (.pair TI (.pair TI TI)))))) (.pair TI TI))))))))]) (rs := [(.sl (.st (.pair TI TV)))]) (F := ({ quiet := (ext noQ 44 scene_Colour.q), deep := noDeep } : Fns)) (D := D0) (S := tabS [(0, loopS scene_Emits.L0 24 0 [.exit 0] scene_Emits.l0)]) (t := scene_Emits.t) mixed (quiet_ext (quiet_none _) scene_Colour.ok) (deep_none _) Try.func38 (by kernel_rfl) (sok_fn ⟨scene_Emits.k0, trivial⟩) (by kernel_rfl) (fun x => by kernel_rfl)
end Go.Proofs.Pen

namespace Go.Proofs.Pen
open Go Go.Proofs
noncomputable def ref22_Vec.t (x : (Int × Int × Int)) : T ((Option Nat × Option Nat × Option Nat)) := T.ret (fop BinOp.quo (some (FloatKind.f64.nearest x.1)) (some 4652218415073722368), fop BinOp.quo (some (FloatKind.f64.nearest x.2.1)) (some 4652218415073722368), fop BinOp.quo (some (FloatKind.f64.nearest x.2.2)) (some 4652218415073722368))
noncomputable def ref22_Vec.q : List AV → T AV := entry [TP] (outR [TV]) ref22_Vec.t
theorem ref22_Vec.ok : FnOK Try.prog 43 ref22_Vec.q :=
  entry_in (ps := [TP]) (rs := [TV]) (F := ({ quiet := noQ, deep := noDeep } : Fns)) (D := D0) (S := tabS []) (t := ref22_Vec.t) mixed (quiet_none _) (deep_none _) Try.func43 (by kernel_rfl) (sok_fn trivial) (by kernel_rfl) (fun x => by kernel_rfl)
end Go.Proofs.Pen

namespace Go.Proofs.Pen
open Go Go.Proofs
def ref22_Tris.L0 : List (Nat × Lay) := [(1, .box (.st (.pair (.sl TMatD) (.pair (.sl TTriD) (.pair (.sl TLitD) (.pair TI (.pair (.sl TP) (.pair (.st (.pair TP (.pair TP (.pair TP (.pair TI (.pair TI TI)))))) (.pair TI TI))))))))), (3, .row (.st (.pair TV (.pair TV TV)))), (4, .val TI)]
noncomputable def ref22_Tris.t0 (x : ((List ((Int × Int × Int) × (Int × Int × Int) × Int)) × (List ((Int × Int × Int) × (Int × Int × Int) × (Int × Int × Int) × Int)) × (List (Int × Int × Int × Int)) × Int × (List (Int × Int × Int)) × ((Int × Int × Int) × (Int × Int × Int) × (Int × Int × Int) × Int × Int × Int) × Int × Int) × List ((Option Nat × Option Nat × Option Nat) × (Option Nat × Option Nat × Option Nat) × Option Nat × Option Nat × Option Nat) × Int × Unit) : T (Ex × ((List ((Int × Int × Int) × (Int × Int × Int) × Int)) × (List ((Int × Int × Int) × (Int × Int × Int) × (Int × Int × Int) × Int)) × (List (Int × Int × Int × Int)) × Int × (List (Int × Int × Int)) × ((Int × Int × Int) × (Int × Int × Int) × (Int × Int × Int) × Int × Int × Int) × Int × Int) × List ((Option Nat × Option Nat × Option Nat) × (Option Nat × Option Nat × Option Nat) × Option Nat × Option Nat × Option Nat) × Int × Unit) := T.ite (decide (x.2.2.1 < (↑(List.length x.1.2.1) : Int))) (T.opt (lget x.1.2.1 x.2.2.1) fun y => T.opt (lget x.1.2.1 x.2.2.1) fun y_1 => T.opt (lget x.1.2.1 x.2.2.1) fun y_2 => T.ite (decide ((x.2.1.length + 1) * 72 ≤ most)) (T.ret (Ex.normal, x.1, List.take (x.2.1.length + 1) (List.take x.2.1.length x.2.1 ++ [((fop BinOp.quo (some (FloatKind.f64.nearest y.1.1)) (some 4652218415073722368), fop BinOp.quo (some (FloatKind.f64.nearest y.1.2.1)) (some 4652218415073722368), fop BinOp.quo (some (FloatKind.f64.nearest y.1.2.2)) (some 4652218415073722368)), (fop BinOp.quo (some (FloatKind.f64.nearest y_1.snd.fst.fst)) (some 4652218415073722368), fop BinOp.quo (some (FloatKind.f64.nearest y_1.snd.fst.snd.fst)) (some 4652218415073722368), fop BinOp.quo (some (FloatKind.f64.nearest y_1.snd.fst.snd.snd)) (some 4652218415073722368)), fop BinOp.quo (some (FloatKind.f64.nearest y_2.snd.snd.fst.fst)) (some 4652218415073722368), fop BinOp.quo (some (FloatKind.f64.nearest y_2.snd.snd.fst.snd.fst)) (some 4652218415073722368), fop BinOp.quo (some (FloatKind.f64.nearest y_2.snd.snd.fst.snd.snd)) (some 4652218415073722368))]), W (x.2.2.1 + 1), ())) T.fail) (T.ret (Ex.exit 0, x.1, List.take x.2.1.length x.2.1, x.2.2.1, ()))
noncomputable def ref22_Tris.l0 (x : ((List ((Int × Int × Int) × (Int × Int × Int) × Int)) × (List ((Int × Int × Int) × (Int × Int × Int) × (Int × Int × Int) × Int)) × (List (Int × Int × Int × Int)) × Int × (List (Int × Int × Int)) × ((Int × Int × Int) × (Int × Int × Int) × (Int × Int × Int) × Int × Int × Int) × Int × Int) × List ((Option Nat × Option Nat × Option Nat) × (Option Nat × Option Nat × Option Nat) × Option Nat × Option Nat × Option Nat) × Int × Unit) : Option (Ex × ((List ((Int × Int × Int) × (Int × Int × Int) × Int)) × (List ((Int × Int × Int) × (Int × Int × Int) × (Int × Int × Int) × Int)) × (List (Int × Int × Int × Int)) × Int × (List (Int × Int × Int)) × ((Int × Int × Int) × (Int × Int × Int) × (Int × Int × Int) × Int × Int × Int) × Int × Int) × List ((Option Nat × Option Nat × Option Nat) × (Option Nat × Option Nat × Option Nat) × Option Nat × Option Nat × Option Nat) × Int × Unit) := (iterT ref22_Tris.t0 rounds x).run
theorem ref22_Tris.k0 : bodies 0 (lp Try.f39 []) = [.loop (loopIn 0 (lp Try.f39 []))] ∧ WP Try.prog 0 (.block 0 (.loop (loopIn 0 (lp Try.f39 [])))) (loopS ref22_Tris.L0 38 0 [.exit 0] ref22_Tris.l0) :=
  loop_tree (L := ref22_Tris.L0) (F := ({ quiet := (ext noQ 43 ref22_Vec.q), deep := noDeep } : Fns)) (D := D0) (tab := []) (t := ref22_Tris.t0) mixed (quiet_ext (quiet_none _) ref22_Vec.ok) (deep_none _) (fun _ => rfl) (by kernel_rfl) (by kernel_rfl) trivial (fun x => by kernel_rfl)
noncomputable def ref22_Tris.t (x : ((List ((Int × Int × Int) × (Int × Int × Int) × Int)) × (List ((Int × Int × Int) × (Int × Int × Int) × (Int × Int × Int) × Int)) × (List (Int × Int × Int × Int)) × Int × (List (Int × Int × Int)) × ((Int × Int × Int) × (Int × Int × Int) × (Int × Int × Int) × Int × Int × Int) × Int × Int)) : T ((List ((Option Nat × Option Nat × Option Nat) × (Option Nat × Option Nat × Option Nat) × Option Nat × Option Nat × Option Nat))) := T.opt (ref22_Tris.l0 (x, [], 0, ())) fun y => T.ite (exEq y.1 (Ex.exit 0)) (T.ret (List.take y.2.2.1.length y.2.2.1)) T.fail
noncomputable def ref22_Tris (x : ((List ((Int × Int × Int) × (Int × Int × Int) × Int)) × (List ((Int × Int × Int) × (Int × Int × Int) × (Int × Int × Int) × Int)) × (List (Int × Int × Int × Int)) × Int × (List (Int × Int × Int)) × ((Int × Int × Int) × (Int × Int × Int) × (Int × Int × Int) × Int × Int × Int) × Int × Int)) : Option ((List ((Option Nat × Option Nat × Option Nat) × (Option Nat × Option Nat × Option Nat) × Option Nat × Option Nat × Option Nat))) := (ref22_Tris.t x).run
noncomputable def ref22_Tris.q : List AV → T AV := entry [(.st (.pair (.sl TMatD) (.pair (.sl TTriD) (.pair (.sl TLitD) (.pair TI (.pair (.sl TP) (.pair (.st (.pair TP (.pair TP (.pair TP (.pair TI (.pair TI TI)))))) (.pair TI TI))))))))] (outR [(.sl (.st (.pair TV (.pair TV TV))))]) fun x => .opt (ref22_Tris x) .ret
theorem ref22_Tris.ok : FnOK Try.prog 39 ref22_Tris.q :=
  entry_call (ps := [(.st (.pair (.sl TMatD) (.pair (.sl TTriD) (.pair (.sl TLitD) (.pair TI (.pair (.sl TP) (.pair (.st (.pair TP (.pair TP (.pair TP (.pair TI (.pair TI TI)))))) (.pair TI TI))))))))]) (rs := [(.sl (.st (.pair TV (.pair TV TV))))]) (F := ({ quiet := (ext noQ 43 ref22_Vec.q), deep := noDeep } : Fns)) (D := D0) (S := tabS [(0, loopS ref22_Tris.L0 38 0 [.exit 0] ref22_Tris.l0)]) (t := ref22_Tris.t) mixed (quiet_ext (quiet_none _) ref22_Vec.ok) (deep_none _) Try.func39 (by kernel_rfl) (sok_fn ⟨ref22_Tris.k0, trivial⟩) (by kernel_rfl) (fun x => by kernel_rfl)
end Go.Proofs.Pen

namespace Go.Proofs.Pen
open Go Go.Proofs
noncomputable def law22_colour.t (x : (Int × Int × Int)) : T ((Option Nat × Option Nat × Option Nat)) := T.ret (fop BinOp.quo (some (FloatKind.f64.nearest x.1)) (some 4652218415073722368), fop BinOp.quo (some (FloatKind.f64.nearest x.2.1)) (some 4652218415073722368), fop BinOp.quo (some (FloatKind.f64.nearest x.2.2)) (some 4652218415073722368))
noncomputable def law22_colour.q : List AV → T AV := entry [TP] (outR [TV]) law22_colour.t
theorem law22_colour.ok : FnOK Try.prog 40 law22_colour.q :=
  entry_in (ps := [TP]) (rs := [TV]) (F := ({ quiet := (ext noQ 43 ref22_Vec.q), deep := noDeep } : Fns)) (D := D0) (S := tabS []) (t := law22_colour.t) mixed (quiet_ext (quiet_none _) ref22_Vec.ok) (deep_none _) Try.func40 (by kernel_rfl) (sok_fn trivial) (by kernel_rfl) (fun x => by kernel_rfl)
end Go.Proofs.Pen

namespace Go.Proofs.Pen
open Go Go.Proofs
noncomputable def scene_Camera.t (x : ((List ((Int × Int × Int) × (Int × Int × Int) × Int)) × (List ((Int × Int × Int) × (Int × Int × Int) × (Int × Int × Int) × Int)) × (List (Int × Int × Int × Int)) × Int × (List (Int × Int × Int)) × ((Int × Int × Int) × (Int × Int × Int) × (Int × Int × Int) × Int × Int × Int) × Int × Int)) : T (((Option Nat × Option Nat × Option Nat) × (Option Nat × Option Nat × Option Nat) × (Option Nat × Option Nat × Option Nat) × Option Nat × Option Nat × Option Nat)) := T.ret ((fop BinOp.quo (some (FloatKind.f64.nearest x.2.2.2.2.2.1.1.1)) (some 4652218415073722368), fop BinOp.quo (some (FloatKind.f64.nearest x.2.2.2.2.2.1.1.2.1)) (some 4652218415073722368), fop BinOp.quo (some (FloatKind.f64.nearest x.2.2.2.2.2.1.1.2.2)) (some 4652218415073722368)), (fop BinOp.quo (some (FloatKind.f64.nearest x.2.2.2.2.2.1.2.1.1)) (some 4652218415073722368), fop BinOp.quo (some (FloatKind.f64.nearest x.2.2.2.2.2.1.2.1.2.1)) (some 4652218415073722368), fop BinOp.quo (some (FloatKind.f64.nearest x.2.2.2.2.2.1.2.1.2.2)) (some 4652218415073722368)), (fop BinOp.quo (some (FloatKind.f64.nearest x.2.2.2.2.2.1.2.2.1.1)) (some 4652218415073722368), fop BinOp.quo (some (FloatKind.f64.nearest x.2.2.2.2.2.1.2.2.1.2.1)) (some 4652218415073722368), fop BinOp.quo (some (FloatKind.f64.nearest x.2.2.2.2.2.1.2.2.1.2.2)) (some 4652218415073722368)), fop BinOp.quo (some (FloatKind.f64.nearest x.2.2.2.2.2.1.2.2.2.1)) (some 4652218415073722368), fop BinOp.quo (some (FloatKind.f64.nearest x.2.2.2.2.2.1.2.2.2.2.1)) (some 4652218415073722368), fop BinOp.quo (some (FloatKind.f64.nearest x.2.2.2.2.2.1.2.2.2.2.2)) (some 4652218415073722368))
noncomputable def scene_Camera.q : List AV → T AV := entry [(.st (.pair (.sl TMatD) (.pair (.sl TTriD) (.pair (.sl TLitD) (.pair TI (.pair (.sl TP) (.pair (.st (.pair TP (.pair TP (.pair TP (.pair TI (.pair TI TI)))))) (.pair TI TI))))))))] (outR [(.st (.pair TV (.pair TV (.pair TV (.pair .flt (.pair .flt .flt))))))]) scene_Camera.t
theorem scene_Camera.ok : FnOK Try.prog 41 scene_Camera.q :=
  entry_in (ps := [(.st (.pair (.sl TMatD) (.pair (.sl TTriD) (.pair (.sl TLitD) (.pair TI (.pair (.sl TP) (.pair (.st (.pair TP (.pair TP (.pair TP (.pair TI (.pair TI TI)))))) (.pair TI TI))))))))]) (rs := [(.st (.pair TV (.pair TV (.pair TV (.pair .flt (.pair .flt .flt))))))]) (F := ({ quiet := (ext (ext noQ 42 scene_Vec.q) 45 scene_Number.q), deep := noDeep } : Fns)) (D := D0) (S := tabS []) (t := scene_Camera.t) mixed (quiet_ext (quiet_ext (quiet_none _) scene_Vec.ok) scene_Number.ok) (deep_none _) Try.func41 (by kernel_rfl) (sok_fn trivial) (by kernel_rfl) (fun x => by kernel_rfl)
end Go.Proofs.Pen

namespace Go.Proofs.Pen
open Go Go.Proofs
def law22_SceneParts.L0 : List (Nat × Lay) := [(1, .box (.st (.pair (.sl TMatD) (.pair (.sl TTriD) (.pair (.sl TLitD) (.pair TI (.pair (.sl TP) (.pair (.st (.pair TP (.pair TP (.pair TP (.pair TI (.pair TI TI)))))) (.pair TI TI))))))))), (2, .val .bool), (3, .val (.sl (.st (.pair TV (.pair TV TV))))), (4, .val (.sl (.st (.pair TV (.pair TV .flt))))), (5, .val (.sl (.st (.pair TI TV)))), (6, .val (.sl (.st (.pair TV (.pair TV TV))))), (7, .val TI)]
noncomputable def law22_SceneParts.t0 (x : ((List ((Int × Int × Int) × (Int × Int × Int) × Int)) × (List ((Int × Int × Int) × (Int × Int × Int) × (Int × Int × Int) × Int)) × (List (Int × Int × Int × Int)) × Int × (List (Int × Int × Int)) × ((Int × Int × Int) × (Int × Int × Int) × (Int × Int × Int) × Int × Int × Int) × Int × Int) × Bool × (List ((Option Nat × Option Nat × Option Nat) × (Option Nat × Option Nat × Option Nat) × Option Nat × Option Nat × Option Nat)) × (List ((Option Nat × Option Nat × Option Nat) × (Option Nat × Option Nat × Option Nat) × Option Nat)) × (List (Int × Option Nat × Option Nat × Option Nat)) × (List ((Option Nat × Option Nat × Option Nat) × (Option Nat × Option Nat × Option Nat) × Option Nat × Option Nat × Option Nat)) × Int × Unit) : T (Ex × ((List ((Int × Int × Int) × (Int × Int × Int) × Int)) × (List ((Int × Int × Int) × (Int × Int × Int) × (Int × Int × Int) × Int)) × (List (Int × Int × Int × Int)) × Int × (List (Int × Int × Int)) × ((Int × Int × Int) × (Int × Int × Int) × (Int × Int × Int) × Int × Int × Int) × Int × Int) × Bool × (List ((Option Nat × Option Nat × Option Nat) × (Option Nat × Option Nat × Option Nat) × Option Nat × Option Nat × Option Nat)) × (List ((Option Nat × Option Nat × Option Nat) × (Option Nat × Option Nat × Option Nat) × Option Nat)) × (List (Int × Option Nat × Option Nat × Option Nat)) × (List ((Option Nat × Option Nat × Option Nat) × (Option Nat × Option Nat × Option Nat) × Option Nat × Option Nat × Option Nat)) × Int × Unit) := T.ite (decide (x.2.2.2.2.2.2.1 < (↑(List.length x.2.2.1) : Int))) (T.opt (lget x.2.2.1 x.2.2.2.2.2.2.1) fun y => T.opt (lget x.2.2.2.2.2.1 x.2.2.2.2.2.2.1) fun y_1 => T.ite (!(ford y.1.1 y_1.fst.fst == some Ordering.eq && (ford y.1.2.1 y_1.fst.snd.fst == some Ordering.eq && ford y.1.2.2 y_1.fst.snd.snd == some Ordering.eq) && (ford y.2.1.1 y_1.snd.fst.fst == some Ordering.eq && (ford y.2.1.2.1 y_1.snd.fst.snd.fst == some Ordering.eq && ford y.2.1.2.2 y_1.snd.fst.snd.snd == some Ordering.eq) && (ford y.2.2.1 y_1.snd.snd.fst == some Ordering.eq && (ford y.2.2.2.1 y_1.snd.snd.snd.fst == some Ordering.eq && ford y.2.2.2.2 y_1.snd.snd.snd.snd == some Ordering.eq))))) (T.ret (Ex.ret, x.1, false, x.2.2.1, x.2.2.2.1, x.2.2.2.2.1, x.2.2.2.2.2.1, x.2.2.2.2.2.2.1, ())) (T.ret (Ex.normal, x.1, x.2.1, x.2.2.1, x.2.2.2.1, x.2.2.2.2.1, x.2.2.2.2.2.1, W (x.2.2.2.2.2.2.1 + 1), ()))) (T.ret (Ex.exit 0, x.1, x.2.1, x.2.2.1, x.2.2.2.1, x.2.2.2.2.1, x.2.2.2.2.2.1, x.2.2.2.2.2.2.1, ()))
noncomputable def law22_SceneParts.l0 (x : ((List ((Int × Int × Int) × (Int × Int × Int) × Int)) × (List ((Int × Int × Int) × (Int × Int × Int) × (Int × Int × Int) × Int)) × (List (Int × Int × Int × Int)) × Int × (List (Int × Int × Int)) × ((Int × Int × Int) × (Int × Int × Int) × (Int × Int × Int) × Int × Int × Int) × Int × Int) × Bool × (List ((Option Nat × Option Nat × Option Nat) × (Option Nat × Option Nat × Option Nat) × Option Nat × Option Nat × Option Nat)) × (List ((Option Nat × Option Nat × Option Nat) × (Option Nat × Option Nat × Option Nat) × Option Nat)) × (List (Int × Option Nat × Option Nat × Option Nat)) × (List ((Option Nat × Option Nat × Option Nat) × (Option Nat × Option Nat × Option Nat) × Option Nat × Option Nat × Option Nat)) × Int × Unit) : Option (Ex × ((List ((Int × Int × Int) × (Int × Int × Int) × Int)) × (List ((Int × Int × Int) × (Int × Int × Int) × (Int × Int × Int) × Int)) × (List (Int × Int × Int × Int)) × Int × (List (Int × Int × Int)) × ((Int × Int × Int) × (Int × Int × Int) × (Int × Int × Int) × Int × Int × Int) × Int × Int) × Bool × (List ((Option Nat × Option Nat × Option Nat) × (Option Nat × Option Nat × Option Nat) × Option Nat × Option Nat × Option Nat)) × (List ((Option Nat × Option Nat × Option Nat) × (Option Nat × Option Nat × Option Nat) × Option Nat)) × (List (Int × Option Nat × Option Nat × Option Nat)) × (List ((Option Nat × Option Nat × Option Nat) × (Option Nat × Option Nat × Option Nat) × Option Nat × Option Nat × Option Nat)) × Int × Unit) := (iterT law22_SceneParts.t0 rounds x).run
theorem law22_SceneParts.k0 : bodies 0 (lp Try.f8 []) = [.loop (loopIn 0 (lp Try.f8 []))] ∧ WP Try.prog 0 (.block 0 (.loop (loopIn 0 (lp Try.f8 [])))) (loopS law22_SceneParts.L0 176 0 [.exit 0, .ret] law22_SceneParts.l0) :=
  loop_tree (L := law22_SceneParts.L0) (F := ({ quiet := (ext (ext (ext (ext (ext (ext (ext (ext (ext (ext (ext (ext noQ 34 law22_Light.q) 35 law22_awake.q) 36 scene_Tris.q) 37 scene_Mats.q) 38 scene_Emits.q) 39 ref22_Tris.q) 40 law22_colour.q) 41 scene_Camera.q) 42 scene_Vec.q) 43 ref22_Vec.q) 44 scene_Colour.q) 45 scene_Number.q), deep := noDeep } : Fns)) (D := D0) (tab := []) (t := law22_SceneParts.t0) mixed (quiet_ext (quiet_ext (quiet_ext (quiet_ext (quiet_ext (quiet_ext (quiet_ext (quiet_ext (quiet_ext (quiet_ext (quiet_ext (quiet_ext (quiet_none _) law22_Light.ok) law22_awake.ok) scene_Tris.ok) scene_Mats.ok) scene_Emits.ok) ref22_Tris.ok) law22_colour.ok) scene_Camera.ok) scene_Vec.ok) ref22_Vec.ok) scene_Colour.ok) scene_Number.ok) (deep_none _) (fun _ => rfl) (by kernel_rfl) (by kernel_rfl) trivial (fun x => by kernel_rfl)
def law22_SceneParts.L2 : List (Nat × Lay) := [(1, .box (.st (.pair (.sl TMatD) (.pair (.sl TTriD) (.pair (.sl TLitD) (.pair TI (.pair (.sl TP) (.pair (.st (.pair TP (.pair TP (.pair TP (.pair TI (.pair TI TI)))))) (.pair TI TI))))))))), (2, .val .bool), (4, .val (.sl (.st (.pair TV (.pair TV .flt))))), (5, .val (.sl (.st (.pair TI TV)))), (8, .val TI)]
noncomputable def law22_SceneParts.t2 (x : ((List ((Int × Int × Int) × (Int × Int × Int) × Int)) × (List ((Int × Int × Int) × (Int × Int × Int) × (Int × Int × Int) × Int)) × (List (Int × Int × Int × Int)) × Int × (List (Int × Int × Int)) × ((Int × Int × Int) × (Int × Int × Int) × (Int × Int × Int) × Int × Int × Int) × Int × Int) × Bool × (List ((Option Nat × Option Nat × Option Nat) × (Option Nat × Option Nat × Option Nat) × Option Nat)) × (List (Int × Option Nat × Option Nat × Option Nat)) × Int × Unit) : T (Ex × ((List ((Int × Int × Int) × (Int × Int × Int) × Int)) × (List ((Int × Int × Int) × (Int × Int × Int) × (Int × Int × Int) × Int)) × (List (Int × Int × Int × Int)) × Int × (List (Int × Int × Int)) × ((Int × Int × Int) × (Int × Int × Int) × (Int × Int × Int) × Int × Int × Int) × Int × Int) × Bool × (List ((Option Nat × Option Nat × Option Nat) × (Option Nat × Option Nat × Option Nat) × Option Nat)) × (List (Int × Option Nat × Option Nat × Option Nat)) × Int × Unit) := T.ite (decide (x.2.2.2.2.1 < (↑(List.length x.2.2.1) : Int))) (T.opt (lget x.2.2.1 x.2.2.2.2.1) fun y => T.opt (lget x.1.1 x.2.2.2.2.1) fun y_1 => T.opt (lget x.1.1 x.2.2.2.2.1) fun y_2 => T.opt (lget x.1.1 x.2.2.2.2.1) fun y_3 => T.ite (!(ford y.1.1 (fop BinOp.quo (some (FloatKind.f64.nearest y_1.fst.fst)) (some 4652218415073722368)) == some Ordering.eq && (ford y.1.2.1 (fop BinOp.quo (some (FloatKind.f64.nearest y_1.fst.snd.fst)) (some 4652218415073722368)) == some Ordering.eq && ford y.1.2.2 (fop BinOp.quo (some (FloatKind.f64.nearest y_1.fst.snd.snd)) (some 4652218415073722368)) == some Ordering.eq) && (ford y.2.1.1 (fop BinOp.quo (some (FloatKind.f64.nearest y_2.snd.fst.fst)) (some 4652218415073722368)) == some Ordering.eq && (ford y.2.1.2.1 (fop BinOp.quo (some (FloatKind.f64.nearest y_2.snd.fst.snd.fst)) (some 4652218415073722368)) == some Ordering.eq && ford y.2.1.2.2 (fop BinOp.quo (some (FloatKind.f64.nearest y_2.snd.fst.snd.snd)) (some 4652218415073722368)) == some Ordering.eq) && ford y.2.2 (fop BinOp.quo (some (FloatKind.f64.nearest y_3.snd.snd)) (some 4652218415073722368)) == some Ordering.eq))) (T.ret (Ex.ret, x.1, false, x.2.2.1, x.2.2.2.1, x.2.2.2.2.1, ())) (T.ret (Ex.normal, x.1, x.2.1, x.2.2.1, x.2.2.2.1, W (x.2.2.2.2.1 + 1), ()))) (T.ret (Ex.exit 2, x.1, x.2.1, x.2.2.1, x.2.2.2.1, x.2.2.2.2.1, ()))
noncomputable def law22_SceneParts.l2 (x : ((List ((Int × Int × Int) × (Int × Int × Int) × Int)) × (List ((Int × Int × Int) × (Int × Int × Int) × (Int × Int × Int) × Int)) × (List (Int × Int × Int × Int)) × Int × (List (Int × Int × Int)) × ((Int × Int × Int) × (Int × Int × Int) × (Int × Int × Int) × Int × Int × Int) × Int × Int) × Bool × (List ((Option Nat × Option Nat × Option Nat) × (Option Nat × Option Nat × Option Nat) × Option Nat)) × (List (Int × Option Nat × Option Nat × Option Nat)) × Int × Unit) : Option (Ex × ((List ((Int × Int × Int) × (Int × Int × Int) × Int)) × (List ((Int × Int × Int) × (Int × Int × Int) × (Int × Int × Int) × Int)) × (List (Int × Int × Int × Int)) × Int × (List (Int × Int × Int)) × ((Int × Int × Int) × (Int × Int × Int) × (Int × Int × Int) × Int × Int × Int) × Int × Int) × Bool × (List ((Option Nat × Option Nat × Option Nat) × (Option Nat × Option Nat × Option Nat) × Option Nat)) × (List (Int × Option Nat × Option Nat × Option Nat)) × Int × Unit) := (iterT law22_SceneParts.t2 rounds x).run
theorem law22_SceneParts.k2 : bodies 2 (lp Try.f8 []) = [.loop (loopIn 2 (lp Try.f8 []))] ∧ WP Try.prog 0 (.block 2 (.loop (loopIn 2 (lp Try.f8 [])))) (loopS law22_SceneParts.L2 176 2 [.exit 2, .ret] law22_SceneParts.l2) :=
  loop_tree (L := law22_SceneParts.L2) (F := ({ quiet := (ext (ext (ext (ext (ext (ext (ext (ext (ext (ext (ext (ext noQ 34 law22_Light.q) 35 law22_awake.q) 36 scene_Tris.q) 37 scene_Mats.q) 38 scene_Emits.q) 39 ref22_Tris.q) 40 law22_colour.q) 41 scene_Camera.q) 42 scene_Vec.q) 43 ref22_Vec.q) 44 scene_Colour.q) 45 scene_Number.q), deep := noDeep } : Fns)) (D := D0) (tab := []) (t := law22_SceneParts.t2) mixed (quiet_ext (quiet_ext (quiet_ext (quiet_ext (quiet_ext (quiet_ext (quiet_ext (quiet_ext (quiet_ext (quiet_ext (quiet_ext (quiet_ext (quiet_none _) law22_Light.ok) law22_awake.ok) scene_Tris.ok) scene_Mats.ok) scene_Emits.ok) ref22_Tris.ok) law22_colour.ok) scene_Camera.ok) scene_Vec.ok) ref22_Vec.ok) scene_Colour.ok) scene_Number.ok) (deep_none _) (fun _ => rfl) (by kernel_rfl) (by kernel_rfl) trivial (fun x => by kernel_rfl)
def law22_SceneParts.L4 : List (Nat × Lay) := [(1, .box (.st (.pair (.sl TMatD) (.pair (.sl TTriD) (.pair (.sl TLitD) (.pair TI (.pair (.sl TP) (.pair (.st (.pair TP (.pair TP (.pair TP (.pair TI (.pair TI TI)))))) (.pair TI TI))))))))), (2, .val .bool), (5, .val (.sl (.st (.pair TI TV)))), (9, .val TI)]
noncomputable def law22_SceneParts.t4 (x : ((List ((Int × Int × Int) × (Int × Int × Int) × Int)) × (List ((Int × Int × Int) × (Int × Int × Int) × (Int × Int × Int) × Int)) × (List (Int × Int × Int × Int)) × Int × (List (Int × Int × Int)) × ((Int × Int × Int) × (Int × Int × Int) × (Int × Int × Int) × Int × Int × Int) × Int × Int) × Bool × (List (Int × Option Nat × Option Nat × Option Nat)) × Int × Unit) : T (Ex × ((List ((Int × Int × Int) × (Int × Int × Int) × Int)) × (List ((Int × Int × Int) × (Int × Int × Int) × (Int × Int × Int) × Int)) × (List (Int × Int × Int × Int)) × Int × (List (Int × Int × Int)) × ((Int × Int × Int) × (Int × Int × Int) × (Int × Int × Int) × Int × Int × Int) × Int × Int) × Bool × (List (Int × Option Nat × Option Nat × Option Nat)) × Int × Unit) := T.ite (decide (x.2.2.2.1 < (↑(List.length x.2.2.1) : Int))) (T.opt (lget x.2.2.1 x.2.2.2.1) fun y => T.opt (lget x.1.2.2.1 x.2.2.2.1) fun y_1 => T.opt (lget x.1.2.2.1 x.2.2.2.1) fun y_2 => T.ite (!(y.1 == y_1.fst && (ford y.2.1 (fop BinOp.quo (some (FloatKind.f64.nearest y_2.snd.fst)) (some 4652218415073722368)) == some Ordering.eq && (ford y.2.2.1 (fop BinOp.quo (some (FloatKind.f64.nearest y_2.snd.snd.fst)) (some 4652218415073722368)) == some Ordering.eq && ford y.2.2.2 (fop BinOp.quo (some (FloatKind.f64.nearest y_2.snd.snd.snd)) (some 4652218415073722368)) == some Ordering.eq)))) (T.ret (Ex.ret, x.1, false, x.2.2.1, x.2.2.2.1, ())) (T.ret (Ex.normal, x.1, x.2.1, x.2.2.1, W (x.2.2.2.1 + 1), ()))) (T.ret (Ex.exit 4, x.1, x.2.1, x.2.2.1, x.2.2.2.1, ()))
noncomputable def law22_SceneParts.l4 (x : ((List ((Int × Int × Int) × (Int × Int × Int) × Int)) × (List ((Int × Int × Int) × (Int × Int × Int) × (Int × Int × Int) × Int)) × (List (Int × Int × Int × Int)) × Int × (List (Int × Int × Int)) × ((Int × Int × Int) × (Int × Int × Int) × (Int × Int × Int) × Int × Int × Int) × Int × Int) × Bool × (List (Int × Option Nat × Option Nat × Option Nat)) × Int × Unit) : Option (Ex × ((List ((Int × Int × Int) × (Int × Int × Int) × Int)) × (List ((Int × Int × Int) × (Int × Int × Int) × (Int × Int × Int) × Int)) × (List (Int × Int × Int × Int)) × Int × (List (Int × Int × Int)) × ((Int × Int × Int) × (Int × Int × Int) × (Int × Int × Int) × Int × Int × Int) × Int × Int) × Bool × (List (Int × Option Nat × Option Nat × Option Nat)) × Int × Unit) := (iterT law22_SceneParts.t4 rounds x).run
theorem law22_SceneParts.k4 : bodies 4 (lp Try.f8 []) = [.loop (loopIn 4 (lp Try.f8 []))] ∧ WP Try.prog 0 (.block 4 (.loop (loopIn 4 (lp Try.f8 [])))) (loopS law22_SceneParts.L4 176 4 [.exit 4, .ret] law22_SceneParts.l4) :=
  loop_tree (L := law22_SceneParts.L4) (F := ({ quiet := (ext (ext (ext (ext (ext (ext (ext (ext (ext (ext (ext (ext noQ 34 law22_Light.q) 35 law22_awake.q) 36 scene_Tris.q) 37 scene_Mats.q) 38 scene_Emits.q) 39 ref22_Tris.q) 40 law22_colour.q) 41 scene_Camera.q) 42 scene_Vec.q) 43 ref22_Vec.q) 44 scene_Colour.q) 45 scene_Number.q), deep := noDeep } : Fns)) (D := D0) (tab := []) (t := law22_SceneParts.t4) mixed (quiet_ext (quiet_ext (quiet_ext (quiet_ext (quiet_ext (quiet_ext (quiet_ext (quiet_ext (quiet_ext (quiet_ext (quiet_ext (quiet_ext (quiet_none _) law22_Light.ok) law22_awake.ok) scene_Tris.ok) scene_Mats.ok) scene_Emits.ok) ref22_Tris.ok) law22_colour.ok) scene_Camera.ok) scene_Vec.ok) ref22_Vec.ok) scene_Colour.ok) scene_Number.ok) (deep_none _) (fun _ => rfl) (by kernel_rfl) (by kernel_rfl) trivial (fun x => by kernel_rfl)
noncomputable def law22_SceneParts.t (x : ((List ((Int × Int × Int) × (Int × Int × Int) × Int)) × (List ((Int × Int × Int) × (Int × Int × Int) × (Int × Int × Int) × Int)) × (List (Int × Int × Int × Int)) × Int × (List (Int × Int × Int)) × ((Int × Int × Int) × (Int × Int × Int) × (Int × Int × Int) × Int × Int × Int) × Int × Int)) : T (Bool) := T.ite (!(decide ((↑x.1.length : Int) ≤ 40) && decide ((↑x.2.1.length : Int) ≤ 60) && decide ((↑x.2.2.1.length : Int) ≤ 60) && decide ((↑x.2.2.2.2.1.length : Int) ≤ 200))) (T.ret true) (T.opt (scene_Tris x) fun y => T.opt (scene_Mats x) fun y_1 => T.opt (scene_Emits x) fun y_2 => T.opt (ref22_Tris x) fun y_3 => T.ite ((↑y.length : Int) != (↑y_3.length : Int) || (↑y_1.length : Int) != (↑(List.length x.1) : Int) || (↑y_2.length : Int) != (↑(List.length x.2.2.1) : Int)) (T.ret false) (T.opt (law22_SceneParts.l0 (x, false, y, y_1, y_2, y_3, 0, ())) fun y => T.ite (exEq y.1 (Ex.exit 0)) (T.opt (law22_SceneParts.l2 (y.2.1, y.2.2.1, y.2.2.2.2.1, y.2.2.2.2.2.1, 0, ())) fun y => T.ite (exEq y.1 (Ex.exit 2)) (T.opt (law22_SceneParts.l4 (y.2.1, y.2.2.1, y.2.2.2.2.1, 0, ())) fun y => T.ite (exEq y.1 (Ex.exit 4)) (T.ite (!(ford (fop BinOp.quo (some (FloatKind.f64.nearest y.2.1.2.2.2.2.2.1.2.1.1)) (some 4652218415073722368)) (fop BinOp.quo (some (FloatKind.f64.nearest y.2.1.2.2.2.2.2.1.2.1.1)) (some 4652218415073722368)) == some Ordering.eq && (ford (fop BinOp.quo (some (FloatKind.f64.nearest y.2.1.2.2.2.2.2.1.2.1.2.1)) (some 4652218415073722368)) (fop BinOp.quo (some (FloatKind.f64.nearest y.2.1.2.2.2.2.2.1.2.1.2.1)) (some 4652218415073722368)) == some Ordering.eq && ford (fop BinOp.quo (some (FloatKind.f64.nearest y.2.1.2.2.2.2.2.1.2.1.2.2)) (some 4652218415073722368)) (fop BinOp.quo (some (FloatKind.f64.nearest y.2.1.2.2.2.2.2.1.2.1.2.2)) (some 4652218415073722368)) == some Ordering.eq))) (T.ret false) (T.ite (!(ford (fop BinOp.quo (some (FloatKind.f64.nearest y.2.1.2.2.2.2.2.1.2.2.1.1)) (some 4652218415073722368)) (fop BinOp.quo (some (FloatKind.f64.nearest y.2.1.2.2.2.2.2.1.2.2.1.1)) (some 4652218415073722368)) == some Ordering.eq && (ford (fop BinOp.quo (some (FloatKind.f64.nearest y.2.1.2.2.2.2.2.1.2.2.1.2.1)) (some 4652218415073722368)) (fop BinOp.quo (some (FloatKind.f64.nearest y.2.1.2.2.2.2.2.1.2.2.1.2.1)) (some 4652218415073722368)) == some Ordering.eq && ford (fop BinOp.quo (some (FloatKind.f64.nearest y.2.1.2.2.2.2.2.1.2.2.1.2.2)) (some 4652218415073722368)) (fop BinOp.quo (some (FloatKind.f64.nearest y.2.1.2.2.2.2.2.1.2.2.1.2.2)) (some 4652218415073722368)) == some Ordering.eq))) (T.ret false) (T.ite (ford (fop BinOp.quo (some (FloatKind.f64.nearest y.2.1.2.2.2.2.2.1.2.2.2.1)) (some 4652218415073722368)) (fop BinOp.quo (some (FloatKind.f64.nearest y.2.1.2.2.2.2.2.1.2.2.2.1)) (some 4652218415073722368)) != some Ordering.eq) (T.ret false) (T.ite true (T.ret (ford (fop BinOp.quo (some (FloatKind.f64.nearest y.2.1.2.2.2.2.2.1.1.1)) (some 4652218415073722368)) (fop BinOp.quo (some (FloatKind.f64.nearest y.2.1.2.2.2.2.2.1.1.1)) (some 4652218415073722368)) == some Ordering.eq && (ford (fop BinOp.quo (some (FloatKind.f64.nearest y.2.1.2.2.2.2.2.1.1.2.1)) (some 4652218415073722368)) (fop BinOp.quo (some (FloatKind.f64.nearest y.2.1.2.2.2.2.2.1.1.2.1)) (some 4652218415073722368)) == some Ordering.eq && ford (fop BinOp.quo (some (FloatKind.f64.nearest y.2.1.2.2.2.2.2.1.1.2.2)) (some 4652218415073722368)) (fop BinOp.quo (some (FloatKind.f64.nearest y.2.1.2.2.2.2.2.1.1.2.2)) (some 4652218415073722368)) == some Ordering.eq) && (ford (fop BinOp.quo (some (FloatKind.f64.nearest y.2.1.2.2.2.2.2.1.2.1.1)) (some 4652218415073722368)) (fop BinOp.quo (some (FloatKind.f64.nearest y.2.1.2.2.2.2.2.1.2.1.1)) (some 4652218415073722368)) == some Ordering.eq && (ford (fop BinOp.quo (some (FloatKind.f64.nearest y.2.1.2.2.2.2.2.1.2.1.2.1)) (some 4652218415073722368)) (fop BinOp.quo (some (FloatKind.f64.nearest y.2.1.2.2.2.2.2.1.2.1.2.1)) (some 4652218415073722368)) == some Ordering.eq && ford (fop BinOp.quo (some (FloatKind.f64.nearest y.2.1.2.2.2.2.2.1.2.1.2.2)) (some 4652218415073722368)) (fop BinOp.quo (some (FloatKind.f64.nearest y.2.1.2.2.2.2.2.1.2.1.2.2)) (some 4652218415073722368)) == some Ordering.eq) && (ford (fop BinOp.quo (some (FloatKind.f64.nearest y.2.1.2.2.2.2.2.1.2.2.1.1)) (some 4652218415073722368)) (fop BinOp.quo (some (FloatKind.f64.nearest y.2.1.2.2.2.2.2.1.2.2.1.1)) (some 4652218415073722368)) == some Ordering.eq && (ford (fop BinOp.quo (some (FloatKind.f64.nearest y.2.1.2.2.2.2.2.1.2.2.1.2.1)) (some 4652218415073722368)) (fop BinOp.quo (some (FloatKind.f64.nearest y.2.1.2.2.2.2.2.1.2.2.1.2.1)) (some 4652218415073722368)) == some Ordering.eq && ford (fop BinOp.quo (some (FloatKind.f64.nearest y.2.1.2.2.2.2.2.1.2.2.1.2.2)) (some 4652218415073722368)) (fop BinOp.quo (some (FloatKind.f64.nearest y.2.1.2.2.2.2.2.1.2.2.1.2.2)) (some 4652218415073722368)) == some Ordering.eq) && (ford (fop BinOp.quo (some (FloatKind.f64.nearest y.2.1.2.2.2.2.2.1.2.2.2.1)) (some 4652218415073722368)) (fop BinOp.quo (some (FloatKind.f64.nearest y.2.1.2.2.2.2.2.1.2.2.2.1)) (some 4652218415073722368)) == some Ordering.eq && (ford (fop BinOp.quo (some (FloatKind.f64.nearest y.2.1.2.2.2.2.2.1.2.2.2.2.1)) (some 4652218415073722368)) (fop BinOp.quo (some (FloatKind.f64.nearest y.2.1.2.2.2.2.2.1.2.2.2.2.1)) (some 4652218415073722368)) == some Ordering.eq && ford (fop BinOp.quo (some (FloatKind.f64.nearest y.2.1.2.2.2.2.2.1.2.2.2.2.2)) (some 4652218415073722368)) (fop BinOp.quo (some (FloatKind.f64.nearest y.2.1.2.2.2.2.2.1.2.2.2.2.2)) (some 4652218415073722368)) == some Ordering.eq)))))) (T.ret false))))) (T.ite (exEq y.1 Ex.ret) (T.ret y.2.2.1) T.fail)) (T.ite (exEq y.1 Ex.ret) (T.ret y.2.2.1) T.fail)) (T.ite (exEq y.1 Ex.ret) (T.ret y.2.2.1) T.fail)))
noncomputable def law22_SceneParts (x : ((List ((Int × Int × Int) × (Int × Int × Int) × Int)) × (List ((Int × Int × Int) × (Int × Int × Int) × (Int × Int × Int) × Int)) × (List (Int × Int × Int × Int)) × Int × (List (Int × Int × Int)) × ((Int × Int × Int) × (Int × Int × Int) × (Int × Int × Int) × Int × Int × Int) × Int × Int)) : Option (Bool) := (law22_SceneParts.t x).run
noncomputable def law22_SceneParts.q : List AV → T AV := entry [(.st (.pair (.sl TMatD) (.pair (.sl TTriD) (.pair (.sl TLitD) (.pair TI (.pair (.sl TP) (.pair (.st (.pair TP (.pair TP (.pair TP (.pair TI (.pair TI TI)))))) (.pair TI TI))))))))] (outR [.bool]) fun x => .opt (law22_SceneParts x) .ret
theorem law22_SceneParts.ok : FnOK Try.prog 8 law22_SceneParts.q :=
  entry_call (ps := [(.st (.pair (.sl TMatD) (.pair (.sl TTriD) (.pair (.sl TLitD) (.pair TI (.pair (.sl TP) (.pair (.st (.pair TP (.pair TP (.pair TP (.pair TI (.pair TI TI)))))) (.pair TI TI))))))))]) (rs := [.bool]) (F := ({ quiet := (ext (ext (ext (ext (ext (ext (ext (ext (ext (ext (ext (ext noQ 34 law22_Light.q) 35 law22_awake.q) 36 scene_Tris.q) 37 scene_Mats.q) 38 scene_Emits.q) 39 ref22_Tris.q) 40 law22_colour.q) 41 scene_Camera.q) 42 scene_Vec.q) 43 ref22_Vec.q) 44 scene_Colour.q) 45 scene_Number.q), deep := noDeep } : Fns)) (D := D0) (S := tabS [(0, loopS law22_SceneParts.L0 176 0 [.exit 0, .ret] law22_SceneParts.l0), (2, loopS law22_SceneParts.L2 176 2 [.exit 2, .ret] law22_SceneParts.l2), (4, loopS law22_SceneParts.L4 176 4 [.exit 4, .ret] law22_SceneParts.l4)]) (t := law22_SceneParts.t) mixed (quiet_ext (quiet_ext (quiet_ext (quiet_ext (quiet_ext (quiet_ext (quiet_ext (quiet_ext (quiet_ext (quiet_ext (quiet_ext (quiet_ext (quiet_none _) law22_Light.ok) law22_awake.ok) scene_Tris.ok) scene_Mats.ok) scene_Emits.ok) ref22_Tris.ok) law22_colour.ok) scene_Camera.ok) scene_Vec.ok) ref22_Vec.ok) scene_Colour.ok) scene_Number.ok) (deep_none _) Try.func8 (by kernel_rfl) (sok_fn ⟨law22_SceneParts.k0, law22_SceneParts.k2, law22_SceneParts.k4, trivial⟩) (by kernel_rfl) (fun x => by kernel_rfl)
end Go.Proofs.Pen

namespace Go.Proofs.Pen
open Go Go.Proofs

abbrev F3 := Option Nat × Option Nat × Option Nat
noncomputable def vz (p : Int × Int × Int) : F3 := (fz p.1, fz p.2.1, fz p.2.2)
noncomputable def triz (t : (Int × Int × Int) × (Int × Int × Int) × (Int × Int × Int) × Int) : F3 × F3 × F3 := (vz t.1, vz t.2.1, vz t.2.2.1)
noncomputable def matz (m : (Int × Int × Int) × (Int × Int × Int) × Int) : F3 × F3 × Option Nat := (vz m.1, vz m.2.1, fz m.2.2)
noncomputable def litz (l : Int × Int × Int × Int) : Int × F3 := (l.1, vz l.2)

theorem fzE (n : Int) : fop BinOp.quo (some (FloatKind.f64.nearest n)) (some 4652218415073722368) = fz n := rfl

theorem trisT (l : List ((Int × Int × Int) × (Int × Int × Int) × (Int × Int × Int) × Int)) (h : l.length < 1000) :
    scene_Tris.l0 ([], l, (l.length : Int), 0, ()) = some (.exit 0, l.map triz, l, (l.length : Int), (l.length : Int), ()) := by
  unfold scene_Tris.l0
  refine iter_count (t := scene_Tris.t0) (fun k => ((l.take k).map triz, l, (l.length : Int), (k : Int), ())) (by simp) l.length 0 rounds (fun i _ hi => ?_) ?_ (rounds_gt (by omega))
  · have hi : i < l.length := by omega
    unfold scene_Tris.t0
    simp only [tr_ite, tr_opt, tr_ret, fzE, lget_nat l hi, Option.bind_some]
    rw [if_pos (by simp; omega), if_pos (by simp only [decide_eq_true_eq]; exact room (by simp; omega) (by omega)), take_all, map_take triz l hi, W_succ (by omega)]
    rfl
  · unfold scene_Tris.t0
    simp only [tr_ite, tr_ret]
    rw [if_neg (by simp), Nat.zero_add, List.take_length, List.take_length]

theorem matsT (l : List ((Int × Int × Int) × (Int × Int × Int) × Int)) (h : l.length < 1000) :
    scene_Mats.l0 ([], l, (l.length : Int), 0, ()) = some (.exit 0, l.map matz, l, (l.length : Int), (l.length : Int), ()) := by
  unfold scene_Mats.l0
  refine iter_count (t := scene_Mats.t0) (fun k => ((l.take k).map matz, l, (l.length : Int), (k : Int), ())) (by simp) l.length 0 rounds (fun i _ hi => ?_) ?_ (rounds_gt (by omega))
  · have hi : i < l.length := by omega
    unfold scene_Mats.t0
    simp only [tr_ite, tr_opt, tr_ret, fzE, lget_nat l hi, Option.bind_some]
    rw [if_pos (by simp; omega), if_pos (by simp only [decide_eq_true_eq]; exact room (by simp; omega) (by omega)), take_all, map_take matz l hi, W_succ (by omega)]
    rfl
  · unfold scene_Mats.t0
    simp only [tr_ite, tr_ret]
    rw [if_neg (by simp), Nat.zero_add, List.take_length, List.take_length]

theorem litsT (l : List (Int × Int × Int × Int)) (h : l.length < 1000) :
    scene_Emits.l0 ([], l, (l.length : Int), 0, ()) = some (.exit 0, l.map litz, l, (l.length : Int), (l.length : Int), ()) := by
  unfold scene_Emits.l0
  refine iter_count (t := scene_Emits.t0) (fun k => ((l.take k).map litz, l, (l.length : Int), (k : Int), ())) (by simp) l.length 0 rounds (fun i _ hi => ?_) ?_ (rounds_gt (by omega))
  · have hi : i < l.length := by omega
    unfold scene_Emits.t0
    simp only [tr_ite, tr_opt, tr_ret, fzE, lget_nat l hi, Option.bind_some]
    rw [if_pos (by simp; omega), if_pos (by simp only [decide_eq_true_eq]; exact room (by simp; omega) (by omega)), take_all, map_take litz l hi, W_succ (by omega)]
    rfl
  · unfold scene_Emits.t0
    simp only [tr_ite, tr_ret]
    rw [if_neg (by simp), Nat.zero_add, List.take_length, List.take_length]

abbrev Sc := (List ((Int × Int × Int) × (Int × Int × Int) × Int)) × (List ((Int × Int × Int) × (Int × Int × Int) × (Int × Int × Int) × Int)) × (List (Int × Int × Int × Int)) × Int × (List (Int × Int × Int)) × ((Int × Int × Int) × (Int × Int × Int) × (Int × Int × Int) × Int × Int × Int) × Int × Int

theorem refT (x : Sc) (h : x.2.1.length < 1000) : ref22_Tris.l0 (x, [], 0, ()) = some (.exit 0, x, x.2.1.map triz, (x.2.1.length : Int), ()) := by
  unfold ref22_Tris.l0
  refine iter_count (t := ref22_Tris.t0) (fun k => (x, (x.2.1.take k).map triz, (k : Int), ())) (by simp) x.2.1.length 0 rounds (fun i _ hi => ?_) ?_ (rounds_gt (by omega))
  · have hi : i < x.2.1.length := by omega
    unfold ref22_Tris.t0
    simp only [tr_ite, tr_opt, tr_ret, fzE, lget_nat x.2.1 hi, Option.bind_some]
    rw [if_pos (by simp; omega), if_pos (by simp only [decide_eq_true_eq]; exact room (by simp; omega) (by omega)), take_all, map_take triz x.2.1 hi, W_succ (by omega)]
    rfl
  · unfold ref22_Tris.t0
    simp only [tr_ite, tr_ret]
    rw [if_neg (by simp), Nat.zero_add, List.take_length, List.take_length]

theorem scene_Tris_eq (x : Sc) (h : x.2.1.length < 1000) : scene_Tris x = some (x.2.1.map triz) := by
  unfold scene_Tris scene_Tris.t
  simp only [tr_opt, tr_ite, tr_ret, trisT x.2.1 h, Option.bind_some, List.take_length]
  rw [if_pos (by decide)]
theorem scene_Mats_eq (x : Sc) (h : x.1.length < 1000) : scene_Mats x = some (x.1.map matz) := by
  unfold scene_Mats scene_Mats.t
  simp only [tr_opt, tr_ite, tr_ret, matsT x.1 h, Option.bind_some, List.take_length]
  rw [if_pos (by decide)]
theorem scene_Emits_eq (x : Sc) (h : x.2.2.1.length < 1000) : scene_Emits x = some (x.2.2.1.map litz) := by
  unfold scene_Emits scene_Emits.t
  simp only [tr_opt, tr_ite, tr_ret, litsT x.2.2.1 h, Option.bind_some, List.take_length]
  rw [if_pos (by decide)]
theorem ref22_Tris_eq (x : Sc) (h : x.2.1.length < 1000) : ref22_Tris x = some (x.2.1.map triz) := by
  unfold ref22_Tris ref22_Tris.t
  simp only [tr_opt, tr_ite, tr_ret, refT x h, Option.bind_some, List.take_length]
  rw [if_pos (by decide)]

theorem chk0 (x : Sc) (h : x.2.1.length < 1000) (b : Bool) (m : List (F3 × F3 × Option Nat)) (l : List (Int × F3)) :
    law22_SceneParts.l0 (x, b, x.2.1.map triz, m, l, x.2.1.map triz, 0, ()) = some (.exit 0, x, b, x.2.1.map triz, m, l, x.2.1.map triz, (x.2.1.length : Int), ()) := by
  unfold law22_SceneParts.l0
  refine iter_count (t := law22_SceneParts.t0) (fun k => (x, b, x.2.1.map triz, m, l, x.2.1.map triz, (k : Int), ())) (by simp) x.2.1.length 0 rounds (fun i _ hi => ?_) ?_ (rounds_gt (by omega))
  · have hi : i < x.2.1.length := by omega
    unfold law22_SceneParts.t0
    simp only [tr_ite, tr_opt, tr_ret, lget_nat (x.2.1.map triz) (k := i) (by simpa using hi), Option.bind_some, List.getElem_map]
    rw [if_pos (by simp; omega)]
    simp only [triz, vz, fz_self, beq_self_eq_true, Bool.and_self, Bool.not_true, Bool.false_eq_true, if_false, W_succ (show i < 1000 by omega)]
  · unfold law22_SceneParts.t0
    simp only [tr_ite, tr_ret]
    rw [if_neg (by simp), Nat.zero_add]

theorem chk2 (x : Sc) (h : x.1.length < 1000) (b : Bool) (l : List (Int × F3)) :
    law22_SceneParts.l2 (x, b, x.1.map matz, l, 0, ()) = some (.exit 2, x, b, x.1.map matz, l, (x.1.length : Int), ()) := by
  unfold law22_SceneParts.l2
  refine iter_count (t := law22_SceneParts.t2) (fun k => (x, b, x.1.map matz, l, (k : Int), ())) (by simp) x.1.length 0 rounds (fun i _ hi => ?_) ?_ (rounds_gt (by omega))
  · have hi : i < x.1.length := by omega
    unfold law22_SceneParts.t2
    simp only [tr_ite, tr_opt, tr_ret, fzE, lget_nat (x.1.map matz) (k := i) (by simpa using hi), lget_nat x.1 hi, Option.bind_some, List.getElem_map]
    rw [if_pos (by simp; omega)]
    simp only [matz, vz, fz_self, beq_self_eq_true, Bool.and_self, Bool.not_true, Bool.false_eq_true, if_false, W_succ (show i < 1000 by omega)]
  · unfold law22_SceneParts.t2
    simp only [tr_ite, tr_ret]
    rw [if_neg (by simp), Nat.zero_add]

theorem chk4 (x : Sc) (h : x.2.2.1.length < 1000) (b : Bool) :
    law22_SceneParts.l4 (x, b, x.2.2.1.map litz, 0, ()) = some (.exit 4, x, b, x.2.2.1.map litz, (x.2.2.1.length : Int), ()) := by
  unfold law22_SceneParts.l4
  refine iter_count (t := law22_SceneParts.t4) (fun k => (x, b, x.2.2.1.map litz, (k : Int), ())) (by simp) x.2.2.1.length 0 rounds (fun i _ hi => ?_) ?_ (rounds_gt (by omega))
  · have hi : i < x.2.2.1.length := by omega
    unfold law22_SceneParts.t4
    simp only [tr_ite, tr_opt, tr_ret, fzE, lget_nat (x.2.2.1.map litz) (k := i) (by simpa using hi), lget_nat x.2.2.1 hi, Option.bind_some, List.getElem_map]
    rw [if_pos (by simp; omega)]
    simp only [litz, vz, fz_self, beq_self_eq_true, Bool.and_self, Bool.not_true, Bool.false_eq_true, if_false, W_succ (show i < 1000 by omega)]
  · unfold law22_SceneParts.t4
    simp only [tr_ite, tr_ret]
    rw [if_neg (by simp), Nat.zero_add]

theorem SceneParts_run (x : Sc) : (law22_SceneParts.t x).run = some true := by
  unfold law22_SceneParts.t
  rw [tr_ite]
  split
  · rfl
  · rename_i hc
    simp only [Bool.not_eq_true', Bool.not_eq_false, Bool.and_eq_true, decide_eq_true_eq, Bool.not_not] at hc
    have h1 : x.1.length < 1000 := by omega
    have h2 : x.2.1.length < 1000 := by omega
    have h3 : x.2.2.1.length < 1000 := by omega
    simp only [tr_opt, scene_Tris_eq x h2, scene_Mats_eq x h1, scene_Emits_eq x h3, ref22_Tris_eq x h2, Option.bind_some]
    rw [tr_ite, if_neg (by simp)]
    simp only [tr_opt, chk0 x h2, Option.bind_some]
    rw [tr_ite, if_pos (by decide)]
    simp only [tr_opt, chk2 x h1, Option.bind_some]
    rw [tr_ite, if_pos (by decide)]
    simp only [tr_opt, chk4 x h3, Option.bind_some]
    rw [tr_ite, if_pos (by decide)]
    simp only [fzE, fz_self, beq_self_eq_true, Bool.and_self, Bool.not_true, tr_ite, tr_ret, Bool.false_eq_true, if_false, if_true]
    rfl

theorem SceneParts_all (x : dens [(.st (.pair (.sl TMatD) (.pair (.sl TTriD) (.pair (.sl TLitD) (.pair TI (.pair (.sl TP) (.pair (.st (.pair TP (.pair TP (.pair TP (.pair TI (.pair TI TI)))))) (.pair TI TI))))))))]) (_ : insAll _ x) : (law22_SceneParts.t x).run = some true := SceneParts_run x
end Go.Proofs.Pen
