/- A part of the proof that the law HitScans is true of every input: models of the functions that the law reaches, and what holds of them. -/
import Derived.Test.YtncgifjccpngfaaGreatChecked
import Derived.KernelRfl
import Derived.Test.YtncgifjccpngfaaGreatPenKit0
import Derived.Test.YtncgifjccpngfaaGreatPenKit1
import Derived.Test.YtncgifjccpngfaaGreatPenKit2
import Derived.Test.YtncgifjccpngfaaGreatPenKit3
import Derived.Test.YtncgifjccpngfaaGreatPenHitScans4
import Derived.Test.YtncgifjccpngfaaGreatPenKit5
namespace Go.Proofs.Pen
open Go Go.Proofs
abbrev TI : Ty := (.int .i64)
abbrev TV : Ty := (.st (.pair .flt (.pair .flt .flt)))
abbrev THit : Ty := (.st (.pair (.int .i64) (.pair .flt (.pair .flt .flt))))
abbrev TBox : Ty := (.st (.pair (.st (.pair .flt (.pair .flt .flt))) (.st (.pair .flt (.pair .flt .flt)))))
abbrev TTri : Ty := (.st (.pair (.st (.pair .flt (.pair .flt .flt))) (.pair (.st (.pair .flt (.pair .flt .flt))) (.st (.pair .flt (.pair .flt .flt))))))
abbrev TNode : Ty := (.st (.pair (.st (.pair (.st (.pair .flt (.pair .flt .flt))) (.st (.pair .flt (.pair .flt .flt))))) (.pair (.int .i64) (.pair (.int .i64) (.pair (.int .i64) (.int .i64))))))
theorem mixed : Tryz.prog.follows .mixedOrders = true := by kernel_rfl
theorem xFB : ExOK Tryz.prog 128 fromBitsAV := fromBits_ok (by intros; kernel_rfl)
noncomputable def Xs : Nat → List AV → T AV := ext noQ 128 fromBitsAV
theorem Xok : QuietOK Tryz.prog Xs := quiet_extE (quiet_none _) xFB
noncomputable def tb : DTab := (tbExt (tbExt tbNone 63 (cloneD TI 8)) 52 (cloneD TNode 80))
theorem tbOk : TBOK Tryz.prog tb := (tb_ext (tb_ext (tb_none _) (clone_deep (F := { quiet := noQ, deep := noDeep }) (D := D0) (S := noS) mixed (quiet_none _) (deep_none _) Tryz.func63 (by kernel_rfl) (fun c _ => sok_none _ 0 c) (by kernel_rfl) (t := TI) (bt := 8) (by kernel_rfl) (fun v => by kernel_rfl) (fun xs => by kernel_rfl))) (clone_deep (F := { quiet := noQ, deep := noDeep }) (D := D0) (S := noS) mixed (quiet_none _) (deep_none _) Tryz.func52 (by kernel_rfl) (fun c _ => sok_none _ 0 c) (by kernel_rfl) (t := TNode) (bt := 80) (by kernel_rfl) (fun v => by kernel_rfl) (fun xs => by kernel_rfl)))
end Go.Proofs.Pen

namespace Go.Proofs.Pen
open Go Go.Proofs
noncomputable def math_Inf.t (x : Int) : T ((Option Nat)) := T.ite (decide (x ≥ (0 : Int))) (T.ret (some (Int.toNat (9218868437227405312 : Int)))) (T.ret (some (Int.toNat (18442240474082181120 : Int))))
noncomputable def math_Inf (x : Int) : Option ((Option Nat)) := (math_Inf.t x).run
noncomputable def math_Inf.q : List AV → T AV := entry [TI] (outR [.flt]) fun x => .opt (math_Inf x) .ret
theorem math_Inf.ok : FnOK Tryz.prog 71 math_Inf.q :=
  entry_call (ps := [TI]) (rs := [.flt]) (F := ({ quiet := Xs, deep := noDeep } : Fns)) (D := D0) (S := tabS []) (t := math_Inf.t) mixed Xok (deep_none _) Tryz.func71 (by kernel_rfl) (sok_fn trivial) (by kernel_rfl) (fun x => by kernel_rfl)
end Go.Proofs.Pen

namespace Go.Proofs.Pen
open Go Go.Proofs
noncomputable def box_Empty.t (_ : Unit) : T (((Option Nat × Option Nat × Option Nat) × Option Nat × Option Nat × Option Nat)) := T.opt (math_Inf (1 : Int)) fun y => T.ret ((y, y, y), Option.map (Op.negFloat FloatKind.f64) y, Option.map (Op.negFloat FloatKind.f64) y, Option.map (Op.negFloat FloatKind.f64) y)
noncomputable def box_Empty (x : Unit) : Option (((Option Nat × Option Nat × Option Nat) × Option Nat × Option Nat × Option Nat)) := (box_Empty.t x).run
noncomputable def box_Empty.q : List AV → T AV := entry [] (outR [TBox]) fun x => .opt (box_Empty x) .ret
theorem box_Empty.ok : FnOK Tryz.prog 107 box_Empty.q :=
  entry_call (ps := []) (rs := [TBox]) (F := ({ quiet := (ext Xs 71 math_Inf.q), deep := noDeep } : Fns)) (D := D0) (S := tabS []) (t := box_Empty.t) mixed (quiet_ext Xok math_Inf.ok) (deep_none _) Tryz.func107 (by kernel_rfl) (sok_fn trivial) (by kernel_rfl) (fun x => by kernel_rfl)
end Go.Proofs.Pen

namespace Go.Proofs.Pen
open Go Go.Proofs
noncomputable def box_less.t (x : (Option Nat) × (Option Nat)) : T ((Option Nat)) := T.ite (ford x.2 x.1 == some Ordering.lt) (T.ret x.2) (T.ret x.1)
noncomputable def box_less (x : (Option Nat) × (Option Nat)) : Option ((Option Nat)) := (box_less.t x).run
noncomputable def box_less.q : List AV → T AV := entry [.flt, .flt] (outR [.flt]) fun x => .opt (box_less x) .ret
theorem box_less.ok : FnOK Tryz.prog 195 box_less.q :=
  entry_call (ps := [.flt, .flt]) (rs := [.flt]) (F := ({ quiet := Xs, deep := noDeep } : Fns)) (D := D0) (S := tabS []) (t := box_less.t) mixed Xok (deep_none _) Tryz.func195 (by kernel_rfl) (sok_fn trivial) (by kernel_rfl) (fun x => by kernel_rfl)
end Go.Proofs.Pen

namespace Go.Proofs.Pen
open Go Go.Proofs
noncomputable def box_more.t (x : (Option Nat) × (Option Nat)) : T ((Option Nat)) := T.ite (ford x.2 x.1 == some Ordering.gt) (T.ret x.2) (T.ret x.1)
noncomputable def box_more (x : (Option Nat) × (Option Nat)) : Option ((Option Nat)) := (box_more.t x).run
noncomputable def box_more.q : List AV → T AV := entry [.flt, .flt] (outR [.flt]) fun x => .opt (box_more x) .ret
theorem box_more.ok : FnOK Tryz.prog 196 box_more.q :=
  entry_call (ps := [.flt, .flt]) (rs := [.flt]) (F := ({ quiet := Xs, deep := noDeep } : Fns)) (D := D0) (S := tabS []) (t := box_more.t) mixed Xok (deep_none _) Tryz.func196 (by kernel_rfl) (sok_fn trivial) (by kernel_rfl) (fun x => by kernel_rfl)
end Go.Proofs.Pen

namespace Go.Proofs.Pen
open Go Go.Proofs
noncomputable def box_Join.t (x : ((Option Nat × Option Nat × Option Nat) × Option Nat × Option Nat × Option Nat) × ((Option Nat × Option Nat × Option Nat) × Option Nat × Option Nat × Option Nat)) : T (((Option Nat × Option Nat × Option Nat) × Option Nat × Option Nat × Option Nat)) := T.opt (box_less (x.1.1.1, x.2.1.1)) fun y => T.opt (box_less (x.1.1.2.1, x.2.1.2.1)) fun y_1 => T.opt (box_less (x.1.1.2.2, x.2.1.2.2)) fun y_2 => T.opt (box_more (x.1.2.1, x.2.2.1)) fun y_3 => T.opt (box_more (x.1.2.2.1, x.2.2.2.1)) fun y_4 => T.opt (box_more (x.1.2.2.2, x.2.2.2.2)) fun y_5 => T.ret ((y, y_1, y_2), y_3, y_4, y_5)
noncomputable def box_Join (x : ((Option Nat × Option Nat × Option Nat) × Option Nat × Option Nat × Option Nat) × ((Option Nat × Option Nat × Option Nat) × Option Nat × Option Nat × Option Nat)) : Option (((Option Nat × Option Nat × Option Nat) × Option Nat × Option Nat × Option Nat)) := (box_Join.t x).run
noncomputable def box_Join.q : List AV → T AV := entry [TBox, TBox] (outR [TBox]) fun x => .opt (box_Join x) .ret
theorem box_Join.ok : FnOK Tryz.prog 162 box_Join.q :=
  entry_call (ps := [TBox, TBox]) (rs := [TBox]) (F := ({ quiet := (ext (ext Xs 195 box_less.q) 196 box_more.q), deep := noDeep } : Fns)) (D := D0) (S := tabS []) (t := box_Join.t) mixed (quiet_ext (quiet_ext Xok box_less.ok) box_more.ok) (deep_none _) Tryz.func162 (by kernel_rfl) (sok_fn trivial) (by kernel_rfl) (fun x => by kernel_rfl)
end Go.Proofs.Pen

namespace Go.Proofs.Pen
open Go Go.Proofs
noncomputable def box_Grow.t (x : ((Option Nat × Option Nat × Option Nat) × Option Nat × Option Nat × Option Nat) × (Option Nat × Option Nat × Option Nat)) : T (((Option Nat × Option Nat × Option Nat) × Option Nat × Option Nat × Option Nat)) := T.opt (box_Join (x.1, x.2, x.2)) fun y => T.ret y
noncomputable def box_Grow (x : ((Option Nat × Option Nat × Option Nat) × Option Nat × Option Nat × Option Nat) × (Option Nat × Option Nat × Option Nat)) : Option (((Option Nat × Option Nat × Option Nat) × Option Nat × Option Nat × Option Nat)) := (box_Grow.t x).run
noncomputable def box_Grow.q : List AV → T AV := entry [TBox, TV] (outR [TBox]) fun x => .opt (box_Grow x) .ret
theorem box_Grow.ok : FnOK Tryz.prog 106 box_Grow.q :=
  entry_call (ps := [TBox, TV]) (rs := [TBox]) (F := ({ quiet := (ext Xs 162 box_Join.q), deep := noDeep } : Fns)) (D := D0) (S := tabS []) (t := box_Grow.t) mixed (quiet_ext Xok box_Join.ok) (deep_none _) Tryz.func106 (by kernel_rfl) (sok_fn trivial) (by kernel_rfl) (fun x => by kernel_rfl)
end Go.Proofs.Pen

namespace Go.Proofs.Pen
open Go Go.Proofs
noncomputable def box_Of.t (x : ((Option Nat × Option Nat × Option Nat) × (Option Nat × Option Nat × Option Nat) × Option Nat × Option Nat × Option Nat)) : T (((Option Nat × Option Nat × Option Nat) × Option Nat × Option Nat × Option Nat)) := T.opt (box_Empty ()) fun y => T.opt (box_Grow (y, x.1)) fun y => T.opt (box_Grow (y, x.2.1)) fun y => T.opt (box_Grow (y, x.2.2)) fun y => T.ret y
noncomputable def box_Of (x : ((Option Nat × Option Nat × Option Nat) × (Option Nat × Option Nat × Option Nat) × Option Nat × Option Nat × Option Nat)) : Option (((Option Nat × Option Nat × Option Nat) × Option Nat × Option Nat × Option Nat)) := (box_Of.t x).run
noncomputable def box_Of.q : List AV → T AV := entry [TTri] (outR [TBox]) fun x => .opt (box_Of x) .ret
theorem box_Of.ok : FnOK Tryz.prog 47 box_Of.q :=
  entry_call (ps := [TTri]) (rs := [TBox]) (F := ({ quiet := (ext (ext Xs 107 box_Empty.q) 106 box_Grow.q), deep := noDeep } : Fns)) (D := D0) (S := tabS []) (t := box_Of.t) mixed (quiet_ext (quiet_ext Xok box_Empty.ok) box_Grow.ok) (deep_none _) Tryz.func47 (by kernel_rfl) (sok_fn trivial) (by kernel_rfl) (fun x => by kernel_rfl)
end Go.Proofs.Pen

namespace Go.Proofs.Pen
open Go Go.Proofs
noncomputable def vec_Number.t (x : (Option Nat)) : T (Bool) := T.ret ((ford x (some (18442240474082181119 : Nat)) == some Ordering.gt || ford x (some (18442240474082181119 : Nat)) == some Ordering.eq) && (ford x (some (9218868437227405311 : Nat)) == some Ordering.lt || ford x (some (9218868437227405311 : Nat)) == some Ordering.eq))
noncomputable def vec_Number.q : List AV → T AV := entry [.flt] (outR [.bool]) vec_Number.t
theorem vec_Number.ok : FnOK Tryz.prog 91 vec_Number.q :=
  entry_in (ps := [.flt]) (rs := [.bool]) (F := ({ quiet := Xs, deep := noDeep } : Fns)) (D := D0) (S := tabS []) (t := vec_Number.t) mixed Xok (deep_none _) Tryz.func91 (by kernel_rfl) (sok_fn trivial) (by kernel_rfl) (fun x => by kernel_rfl)
end Go.Proofs.Pen

namespace Go.Proofs.Pen
open Go Go.Proofs
noncomputable def vec_Finite.t (x : (Option Nat × Option Nat × Option Nat)) : T (Bool) := T.ite ((ford x.1 (some (18442240474082181119 : Nat)) == some Ordering.gt || ford x.1 (some (18442240474082181119 : Nat)) == some Ordering.eq) && (ford x.1 (some (9218868437227405311 : Nat)) == some Ordering.lt || ford x.1 (some (9218868437227405311 : Nat)) == some Ordering.eq)) (T.ite ((ford x.2.1 (some (18442240474082181119 : Nat)) == some Ordering.gt || ford x.2.1 (some (18442240474082181119 : Nat)) == some Ordering.eq) && (ford x.2.1 (some (9218868437227405311 : Nat)) == some Ordering.lt || ford x.2.1 (some (9218868437227405311 : Nat)) == some Ordering.eq)) (T.ret ((ford x.2.2 (some (18442240474082181119 : Nat)) == some Ordering.gt || ford x.2.2 (some (18442240474082181119 : Nat)) == some Ordering.eq) && (ford x.2.2 (some (9218868437227405311 : Nat)) == some Ordering.lt || ford x.2.2 (some (9218868437227405311 : Nat)) == some Ordering.eq))) (T.ret false)) (T.ret false)
noncomputable def vec_Finite (x : (Option Nat × Option Nat × Option Nat)) : Option (Bool) := (vec_Finite.t x).run
noncomputable def vec_Finite.q : List AV → T AV := entry [TV] (outR [.bool]) fun x => .opt (vec_Finite x) .ret
theorem vec_Finite.ok : FnOK Tryz.prog 92 vec_Finite.q :=
  entry_call (ps := [TV]) (rs := [.bool]) (F := ({ quiet := (ext Xs 91 vec_Number.q), deep := noDeep } : Fns)) (D := D0) (S := tabS []) (t := vec_Finite.t) mixed (quiet_ext Xok vec_Number.ok) (deep_none _) Tryz.func92 (by kernel_rfl) (sok_fn trivial) (by kernel_rfl) (fun x => by kernel_rfl)
end Go.Proofs.Pen

namespace Go.Proofs.Pen
open Go Go.Proofs
noncomputable def vec_Part.t (x : (Option Nat × Option Nat × Option Nat) × Int) : T ((Option Nat)) := T.ite (x.2 == (0 : Int)) (T.ret x.1.1) (T.ite (x.2 == (1 : Int)) (T.ret x.1.2.1) (T.ret x.1.2.2))
noncomputable def vec_Part (x : (Option Nat × Option Nat × Option Nat) × Int) : Option ((Option Nat)) := (vec_Part.t x).run
noncomputable def vec_Part.q : List AV → T AV := entry [TV, TI] (outR [.flt]) fun x => .opt (vec_Part x) .ret
theorem vec_Part.ok : FnOK Tryz.prog 105 vec_Part.q :=
  entry_call (ps := [TV, TI]) (rs := [.flt]) (F := ({ quiet := Xs, deep := noDeep } : Fns)) (D := D0) (S := tabS []) (t := vec_Part.t) mixed Xok (deep_none _) Tryz.func105 (by kernel_rfl) (sok_fn trivial) (by kernel_rfl) (fun x => by kernel_rfl)
end Go.Proofs.Pen

namespace Go.Proofs.Pen
open Go Go.Proofs
noncomputable def box_Through_1.t (x : (Option Nat) × (Option Nat) × (Option Nat)) : T ((Option Nat)) := T.ret (fop BinOp.mul (fop BinOp.sub x.1 x.2.1) x.2.2)
noncomputable def box_Through_1.q : List AV → T AV := entry [.flt, (.ptr .flt), (.ptr .flt)] (outR [.flt]) box_Through_1.t
theorem box_Through_1.ok : FnOK Tryz.prog 212 box_Through_1.q :=
  entry_in (ps := [.flt, (.ptr .flt), (.ptr .flt)]) (rs := [.flt]) (F := ({ quiet := Xs, deep := noDeep } : Fns)) (D := D0) (S := tabS []) (t := box_Through_1.t) mixed Xok (deep_none _) Tryz.func212 (by kernel_rfl) (sok_fn trivial) (by kernel_rfl) (fun x => by kernel_rfl)
end Go.Proofs.Pen

namespace Go.Proofs.Pen
open Go Go.Proofs
def box_Through.L0 : List (Nat × Lay) := [(2, .box TBox), (3, .box TBox), (4, .val .flt), (5, .val .flt), (6, .val .bool), (7, .val .flt), (8, .val .flt), (27, .val TI)]
noncomputable def box_Through.t0 (x : ((Option Nat × Option Nat × Option Nat) × Option Nat × Option Nat × Option Nat) × ((Option Nat × Option Nat × Option Nat) × Option Nat × Option Nat × Option Nat) × (Option Nat) × (Option Nat) × Bool × (Option Nat) × (Option Nat) × Int × Unit) : T (Ex × ((Option Nat × Option Nat × Option Nat) × Option Nat × Option Nat × Option Nat) × ((Option Nat × Option Nat × Option Nat) × Option Nat × Option Nat × Option Nat) × (Option Nat) × (Option Nat) × Bool × (Option Nat) × (Option Nat) × Int × Unit) := T.ite (decide (x.2.2.2.2.2.2.2.1 < (3 : Int))) (T.opt (vec_Part (x.2.1.1, x.2.2.2.2.2.2.2.1)) fun y => T.opt (vec_Part (x.2.1.2, x.2.2.2.2.2.2.2.1)) fun y_1 => T.opt (vec_Part (x.1.1, x.2.2.2.2.2.2.2.1)) fun y_2 => T.opt (vec_Part (x.1.2, x.2.2.2.2.2.2.2.1)) fun y_3 => T.ite (ford y_1 (some (0 : Nat)) == some Ordering.eq) (T.ite (!((ford y_2 y == some Ordering.lt || ford y_2 y == some Ordering.eq) && (ford y y_3 == some Ordering.lt || ford y y_3 == some Ordering.eq))) (T.ret (Ex.ret, x.1, x.2.1, some (0 : Nat), some (0 : Nat), false, x.2.2.2.2.2.1, x.2.2.2.2.2.2.1, x.2.2.2.2.2.2.2.1, ())) (T.ret (Ex.normal, x.1, x.2.1, x.2.2.1, x.2.2.2.1, x.2.2.2.2.1, x.2.2.2.2.2.1, x.2.2.2.2.2.2.1, W (x.2.2.2.2.2.2.2.1 + (1 : Int)), ()))) (T.ite (ford (fop BinOp.quo (some (4607182418800017408 : Nat)) y_1) (some (0 : Nat)) == some Ordering.lt) (T.opt (box_more (x.2.2.2.2.2.1, fop BinOp.mul (fop BinOp.sub y_3 y) (fop BinOp.quo (some (4607182418800017408 : Nat)) y_1))) fun y_4 => T.opt (box_less (x.2.2.2.2.2.2.1, fop BinOp.mul (fop BinOp.sub y_2 y) (fop BinOp.quo (some (4607182418800017408 : Nat)) y_1))) fun y => T.ret (Ex.normal, x.1, x.2.1, x.2.2.1, x.2.2.2.1, x.2.2.2.2.1, y_4, y, W (x.2.2.2.2.2.2.2.1 + (1 : Int)), ())) (T.opt (box_more (x.2.2.2.2.2.1, fop BinOp.mul (fop BinOp.sub y_2 y) (fop BinOp.quo (some (4607182418800017408 : Nat)) y_1))) fun y_4 => T.opt (box_less (x.2.2.2.2.2.2.1, fop BinOp.mul (fop BinOp.sub y_3 y) (fop BinOp.quo (some (4607182418800017408 : Nat)) y_1))) fun y => T.ret (Ex.normal, x.1, x.2.1, x.2.2.1, x.2.2.2.1, x.2.2.2.2.1, y_4, y, W (x.2.2.2.2.2.2.2.1 + (1 : Int)), ())))) (T.ret (Ex.exit (0 : Nat), x.1, x.2.1, x.2.2.1, x.2.2.2.1, x.2.2.2.2.1, x.2.2.2.2.2.1, x.2.2.2.2.2.2.1, x.2.2.2.2.2.2.2.1, ()))
noncomputable def box_Through.l0 (x : ((Option Nat × Option Nat × Option Nat) × Option Nat × Option Nat × Option Nat) × ((Option Nat × Option Nat × Option Nat) × Option Nat × Option Nat × Option Nat) × (Option Nat) × (Option Nat) × Bool × (Option Nat) × (Option Nat) × Int × Unit) : Option (Ex × ((Option Nat × Option Nat × Option Nat) × Option Nat × Option Nat × Option Nat) × ((Option Nat × Option Nat × Option Nat) × Option Nat × Option Nat × Option Nat) × (Option Nat) × (Option Nat) × Bool × (Option Nat) × (Option Nat) × Int × Unit) := (iterT box_Through.t0 rounds x).run
theorem box_Through.k0 : bodies 0 (lp Tryz.f176 []) = [.loop (loopIn 0 (lp Tryz.f176 []))] ∧ WP Tryz.prog 0 (.block 0 (.loop (loopIn 0 (lp Tryz.f176 [])))) (loopS box_Through.L0 81 0 [.exit 0, .ret] box_Through.l0) :=
  loop_tree (L := box_Through.L0) (F := ({ quiet := (ext (ext (ext (ext (ext (ext Xs 92 vec_Finite.q) 71 math_Inf.q) 105 vec_Part.q) 212 box_Through_1.q) 196 box_more.q) 195 box_less.q), deep := noDeep } : Fns)) (D := D0) (tab := []) (t := box_Through.t0) mixed (quiet_ext (quiet_ext (quiet_ext (quiet_ext (quiet_ext (quiet_ext Xok vec_Finite.ok) math_Inf.ok) vec_Part.ok) box_Through_1.ok) box_more.ok) box_less.ok) (deep_none _) (fun _ => rfl) (by kernel_rfl) (by kernel_rfl) trivial (fun x => by kernel_rfl)
noncomputable def box_Through.t (x : ((Option Nat × Option Nat × Option Nat) × Option Nat × Option Nat × Option Nat) × ((Option Nat × Option Nat × Option Nat) × Option Nat × Option Nat × Option Nat)) : T ((Option Nat) × (Option Nat) × Bool) := T.opt (vec_Finite x.2.1) fun y => T.ite (!y) (T.ret (some (0 : Nat), some (0 : Nat), false)) (T.opt (vec_Finite x.2.2) fun y => T.ite (!y) (T.ret (some (0 : Nat), some (0 : Nat), false)) (T.opt (math_Inf (1 : Int)) fun y => T.opt (box_Through.l0 (x.1, x.2, some (0 : Nat), some (0 : Nat), false, some (0 : Nat), y, (0 : Int), ())) fun y => T.ite (exEq y.1 (Ex.exit (0 : Nat))) (T.ite (!(ford y.2.2.2.2.2.2.1 y.2.2.2.2.2.2.2.1 == some Ordering.lt || ford y.2.2.2.2.2.2.1 y.2.2.2.2.2.2.2.1 == some Ordering.eq)) (T.ret (some (0 : Nat), some (0 : Nat), false)) (T.ret (y.2.2.2.2.2.2.1, y.2.2.2.2.2.2.2.1, true))) (T.ite (exEq y.1 Ex.ret) (T.ret (y.2.2.2.1, y.2.2.2.2.1, y.2.2.2.2.2.1)) T.fail)))
noncomputable def box_Through (x : ((Option Nat × Option Nat × Option Nat) × Option Nat × Option Nat × Option Nat) × ((Option Nat × Option Nat × Option Nat) × Option Nat × Option Nat × Option Nat)) : Option ((Option Nat) × (Option Nat) × Bool) := (box_Through.t x).run
noncomputable def box_Through.q : List AV → T AV := entry [TBox, TBox] (outR [.flt, .flt, .bool]) fun x => .opt (box_Through x) .ret
theorem box_Through.ok : FnOK Tryz.prog 176 box_Through.q :=
  entry_call (ps := [TBox, TBox]) (rs := [.flt, .flt, .bool]) (F := ({ quiet := (ext (ext (ext (ext (ext (ext Xs 92 vec_Finite.q) 71 math_Inf.q) 105 vec_Part.q) 212 box_Through_1.q) 196 box_more.q) 195 box_less.q), deep := noDeep } : Fns)) (D := D0) (S := tabS [(0, loopS box_Through.L0 81 0 [.exit 0, .ret] box_Through.l0)]) (t := box_Through.t) mixed (quiet_ext (quiet_ext (quiet_ext (quiet_ext (quiet_ext (quiet_ext Xok vec_Finite.ok) math_Inf.ok) vec_Part.ok) box_Through_1.ok) box_more.ok) box_less.ok) (deep_none _) Tryz.func176 (by kernel_rfl) (sok_fn ⟨box_Through.k0, trivial⟩) (by kernel_rfl) (fun x => by kernel_rfl)
end Go.Proofs.Pen

namespace Go.Proofs.Pen
open Go Go.Proofs
noncomputable def tri_none.t (_ : Unit) : T ((Int × Option Nat × Option Nat × Option Nat)) := T.ret ((-1 : Int), some (0 : Nat), some (0 : Nat), some (0 : Nat))
noncomputable def tri_none.q : List AV → T AV := entry [] (outR [THit]) tri_none.t
theorem tri_none.ok : FnOK Tryz.prog 177 tri_none.q :=
  entry_in (ps := []) (rs := [THit]) (F := ({ quiet := Xs, deep := noDeep } : Fns)) (D := D0) (S := tabS []) (t := tri_none.t) mixed Xok (deep_none _) Tryz.func177 (by kernel_rfl) (sok_fn trivial) (by kernel_rfl) (fun x => by kernel_rfl)
end Go.Proofs.Pen

namespace Go.Proofs.Pen
open Go Go.Proofs
noncomputable def vec_Add_1.t (x : (Option Nat) × (Option Nat)) : T ((Option Nat)) := T.ret (fop BinOp.add x.1 x.2)
noncomputable def vec_Add_1.q : List AV → T AV := entry [.flt, .flt] (outR [.flt]) vec_Add_1.t
theorem vec_Add_1.ok : FnOK Tryz.prog 163 vec_Add_1.q :=
  entry_in (ps := [.flt, .flt]) (rs := [.flt]) (F := ({ quiet := Xs, deep := noDeep } : Fns)) (D := D0) (S := tabS []) (t := vec_Add_1.t) mixed Xok (deep_none _) Tryz.func163 (by kernel_rfl) (sok_fn trivial) (by kernel_rfl) (fun x => by kernel_rfl)
end Go.Proofs.Pen

namespace Go.Proofs.Pen
open Go Go.Proofs
noncomputable def vec_Sub_1.t (x : (Option Nat) × (Option Nat)) : T ((Option Nat)) := T.ret (fop BinOp.sub x.1 x.2)
noncomputable def vec_Sub_1.q : List AV → T AV := entry [.flt, .flt] (outR [.flt]) vec_Sub_1.t
theorem vec_Sub_1.ok : FnOK Tryz.prog 151 vec_Sub_1.q :=
  entry_in (ps := [.flt, .flt]) (rs := [.flt]) (F := ({ quiet := Xs, deep := noDeep } : Fns)) (D := D0) (S := tabS []) (t := vec_Sub_1.t) mixed Xok (deep_none _) Tryz.func151 (by kernel_rfl) (sok_fn trivial) (by kernel_rfl) (fun x => by kernel_rfl)
end Go.Proofs.Pen

namespace Go.Proofs.Pen
open Go Go.Proofs
noncomputable def vec_Mul_1.t (x : (Option Nat) × (Option Nat)) : T ((Option Nat)) := T.ret (fop BinOp.mul x.1 x.2)
noncomputable def vec_Mul_1.q : List AV → T AV := entry [.flt, .flt] (outR [.flt]) vec_Mul_1.t
theorem vec_Mul_1.ok : FnOK Tryz.prog 192 vec_Mul_1.q :=
  entry_in (ps := [.flt, .flt]) (rs := [.flt]) (F := ({ quiet := Xs, deep := noDeep } : Fns)) (D := D0) (S := tabS []) (t := vec_Mul_1.t) mixed Xok (deep_none _) Tryz.func192 (by kernel_rfl) (sok_fn trivial) (by kernel_rfl) (fun x => by kernel_rfl)
end Go.Proofs.Pen

namespace Go.Proofs.Pen
open Go Go.Proofs
noncomputable def eachSub.t (x : (Option Nat × Option Nat × Option Nat) × (Option Nat × Option Nat × Option Nat) × Unit) : T ((Option Nat × Option Nat × Option Nat)) := T.ret (fop BinOp.sub x.1.1 x.2.1.1, fop BinOp.sub x.1.2.1 x.2.1.2.1, fop BinOp.sub x.1.2.2 x.2.1.2.2)
noncomputable def eachSub.q : List AV → T AV := entry [TV, TV, (.clo 151 .unit)] (outR [TV]) eachSub.t
theorem eachSub.ok : FnOK Tryz.prog 150 eachSub.q :=
  entry_in (ps := [TV, TV, (.clo 151 .unit)]) (rs := [TV]) (F := ({ quiet := (ext (ext (ext Xs 163 vec_Add_1.q) 151 vec_Sub_1.q) 192 vec_Mul_1.q), deep := noDeep } : Fns)) (D := D0) (S := tabS []) (t := eachSub.t) mixed (quiet_ext (quiet_ext (quiet_ext Xok vec_Add_1.ok) vec_Sub_1.ok) vec_Mul_1.ok) (deep_none _) Tryz.func150 (by kernel_rfl) (sok_fn trivial) (by kernel_rfl) (fun x => by kernel_rfl)
end Go.Proofs.Pen

namespace Go.Proofs.Pen
open Go Go.Proofs
noncomputable def vec_Sub.t (x : (Option Nat × Option Nat × Option Nat) × (Option Nat × Option Nat × Option Nat)) : T ((Option Nat × Option Nat × Option Nat)) := T.ret (fop BinOp.sub x.1.1 x.2.1, fop BinOp.sub x.1.2.1 x.2.2.1, fop BinOp.sub x.1.2.2 x.2.2.2)
noncomputable def vec_Sub (x : (Option Nat × Option Nat × Option Nat) × (Option Nat × Option Nat × Option Nat)) : Option ((Option Nat × Option Nat × Option Nat)) := (vec_Sub.t x).run
noncomputable def vec_Sub.q : List AV → T AV := entry [TV, TV] (outR [TV]) fun x => .opt (vec_Sub x) .ret
theorem vec_Sub.ok : FnOK Tryz.prog 94 vec_Sub.q :=
  entry_call (ps := [TV, TV]) (rs := [TV]) (F := ({ quiet := (ext Xs 150 eachSub.q), deep := noDeep } : Fns)) (D := D0) (S := tabS []) (t := vec_Sub.t) mixed (quiet_ext Xok eachSub.ok) (deep_none _) Tryz.func94 (by kernel_rfl) (sok_fn trivial) (by kernel_rfl) (fun x => by kernel_rfl)
end Go.Proofs.Pen

namespace Go.Proofs.Pen
open Go Go.Proofs
noncomputable def tri_Edges.t (x : ((Option Nat × Option Nat × Option Nat) × (Option Nat × Option Nat × Option Nat) × Option Nat × Option Nat × Option Nat)) : T ((Option Nat × Option Nat × Option Nat) × (Option Nat × Option Nat × Option Nat)) := T.opt (vec_Sub (x.2.1, x.1)) fun y => T.opt (vec_Sub (x.2.2, x.1)) fun y_1 => T.ret (y, y_1)
noncomputable def tri_Edges (x : ((Option Nat × Option Nat × Option Nat) × (Option Nat × Option Nat × Option Nat) × Option Nat × Option Nat × Option Nat)) : Option ((Option Nat × Option Nat × Option Nat) × (Option Nat × Option Nat × Option Nat)) := (tri_Edges.t x).run
noncomputable def tri_Edges.q : List AV → T AV := entry [TTri] (outR [TV, TV]) fun x => .opt (tri_Edges x) .ret
theorem tri_Edges.ok : FnOK Tryz.prog 149 tri_Edges.q :=
  entry_call (ps := [TTri]) (rs := [TV, TV]) (F := ({ quiet := (ext (ext Xs 94 vec_Sub.q) 151 vec_Sub_1.q), deep := noDeep } : Fns)) (D := D0) (S := tabS []) (t := tri_Edges.t) mixed (quiet_ext (quiet_ext Xok vec_Sub.ok) vec_Sub_1.ok) (deep_none _) Tryz.func149 (by kernel_rfl) (sok_fn trivial) (by kernel_rfl) (fun x => by kernel_rfl)
end Go.Proofs.Pen

namespace Go.Proofs.Pen
open Go Go.Proofs
noncomputable def eachMul.t (x : (Option Nat × Option Nat × Option Nat) × (Option Nat × Option Nat × Option Nat) × Unit) : T ((Option Nat × Option Nat × Option Nat)) := T.ret (fop BinOp.mul x.1.1 x.2.1.1, fop BinOp.mul x.1.2.1 x.2.1.2.1, fop BinOp.mul x.1.2.2 x.2.1.2.2)
noncomputable def eachMul.q : List AV → T AV := entry [TV, TV, (.clo 192 .unit)] (outR [TV]) eachMul.t
theorem eachMul.ok : FnOK Tryz.prog 150 eachMul.q :=
  entry_in (ps := [TV, TV, (.clo 192 .unit)]) (rs := [TV]) (F := ({ quiet := (ext (ext (ext Xs 163 vec_Add_1.q) 151 vec_Sub_1.q) 192 vec_Mul_1.q), deep := noDeep } : Fns)) (D := D0) (S := tabS []) (t := eachMul.t) mixed (quiet_ext (quiet_ext (quiet_ext Xok vec_Add_1.ok) vec_Sub_1.ok) vec_Mul_1.ok) (deep_none _) Tryz.func150 (by kernel_rfl) (sok_fn trivial) (by kernel_rfl) (fun x => by kernel_rfl)
end Go.Proofs.Pen

namespace Go.Proofs.Pen
open Go Go.Proofs
noncomputable def vec_Mul.t (x : (Option Nat × Option Nat × Option Nat) × (Option Nat × Option Nat × Option Nat)) : T ((Option Nat × Option Nat × Option Nat)) := T.ret (fop BinOp.mul x.1.1 x.2.1, fop BinOp.mul x.1.2.1 x.2.2.1, fop BinOp.mul x.1.2.2 x.2.2.2)
noncomputable def vec_Mul.q : List AV → T AV := entry [TV, TV] (outR [TV]) vec_Mul.t
theorem vec_Mul.ok : FnOK Tryz.prog 152 vec_Mul.q :=
  entry_in (ps := [TV, TV]) (rs := [TV]) (F := ({ quiet := (ext Xs 150 eachMul.q), deep := noDeep } : Fns)) (D := D0) (S := tabS []) (t := vec_Mul.t) mixed (quiet_ext Xok eachMul.ok) (deep_none _) Tryz.func152 (by kernel_rfl) (sok_fn trivial) (by kernel_rfl) (fun x => by kernel_rfl)
end Go.Proofs.Pen

namespace Go.Proofs.Pen
open Go Go.Proofs
noncomputable def vec_Cross.t (x : (Option Nat × Option Nat × Option Nat) × (Option Nat × Option Nat × Option Nat)) : T ((Option Nat × Option Nat × Option Nat)) := T.opt (vec_Sub ((fop BinOp.mul x.1.2.1 x.2.2.2, fop BinOp.mul x.1.2.2 x.2.1, fop BinOp.mul x.1.1 x.2.2.1), fop BinOp.mul x.1.2.2 x.2.2.1, fop BinOp.mul x.1.1 x.2.2.2, fop BinOp.mul x.1.2.1 x.2.1)) fun y => T.ret y
noncomputable def vec_Cross (x : (Option Nat × Option Nat × Option Nat) × (Option Nat × Option Nat × Option Nat)) : Option ((Option Nat × Option Nat × Option Nat)) := (vec_Cross.t x).run
noncomputable def vec_Cross.q : List AV → T AV := entry [TV, TV] (outR [TV]) fun x => .opt (vec_Cross x) .ret
theorem vec_Cross.ok : FnOK Tryz.prog 95 vec_Cross.q :=
  entry_call (ps := [TV, TV]) (rs := [TV]) (F := ({ quiet := (ext (ext (ext (ext Xs 152 vec_Mul.q) 94 vec_Sub.q) 151 vec_Sub_1.q) 192 vec_Mul_1.q), deep := noDeep } : Fns)) (D := D0) (S := tabS []) (t := vec_Cross.t) mixed (quiet_ext (quiet_ext (quiet_ext (quiet_ext Xok vec_Mul.ok) vec_Sub.ok) vec_Sub_1.ok) vec_Mul_1.ok) (deep_none _) Tryz.func95 (by kernel_rfl) (sok_fn trivial) (by kernel_rfl) (fun x => by kernel_rfl)
end Go.Proofs.Pen

namespace Go.Proofs.Pen
open Go Go.Proofs
noncomputable def vec_Dot.t (x : (Option Nat × Option Nat × Option Nat) × (Option Nat × Option Nat × Option Nat)) : T ((Option Nat)) := T.ret (fop BinOp.add (fop BinOp.add (fop BinOp.mul x.1.1 x.2.1) (fop BinOp.mul x.1.2.1 x.2.2.1)) (fop BinOp.mul x.1.2.2 x.2.2.2))
noncomputable def vec_Dot (x : (Option Nat × Option Nat × Option Nat) × (Option Nat × Option Nat × Option Nat)) : Option ((Option Nat)) := (vec_Dot.t x).run
noncomputable def vec_Dot.q : List AV → T AV := entry [TV, TV] (outR [.flt]) fun x => .opt (vec_Dot x) .ret
theorem vec_Dot.ok : FnOK Tryz.prog 178 vec_Dot.q :=
  entry_call (ps := [TV, TV]) (rs := [.flt]) (F := ({ quiet := (ext (ext Xs 152 vec_Mul.q) 192 vec_Mul_1.q), deep := noDeep } : Fns)) (D := D0) (S := tabS []) (t := vec_Dot.t) mixed (quiet_ext (quiet_ext Xok vec_Mul.ok) vec_Mul_1.ok) (deep_none _) Tryz.func178 (by kernel_rfl) (sok_fn trivial) (by kernel_rfl) (fun x => by kernel_rfl)
end Go.Proofs.Pen

namespace Go.Proofs.Pen
open Go Go.Proofs
noncomputable def tri_Meet_1.t (x : (Option Nat × Option Nat × Option Nat) × (Option Nat × Option Nat × Option Nat) × (Option Nat)) : T ((Option Nat)) := T.opt (vec_Dot (x.1, x.2.1)) fun y => T.ret (fop BinOp.mul y x.2.2)
noncomputable def tri_Meet_1 (x : (Option Nat × Option Nat × Option Nat) × (Option Nat × Option Nat × Option Nat) × (Option Nat)) : Option ((Option Nat)) := (tri_Meet_1.t x).run
noncomputable def tri_Meet_1.q : List AV → T AV := entry [TV, TV, (.ptr .flt)] (outR [.flt]) fun x => .opt (tri_Meet_1 x) .ret
theorem tri_Meet_1.ok : FnOK Tryz.prog 179 tri_Meet_1.q :=
  entry_call (ps := [TV, TV, (.ptr .flt)]) (rs := [.flt]) (F := ({ quiet := (ext (ext Xs 178 vec_Dot.q) 192 vec_Mul_1.q), deep := noDeep } : Fns)) (D := D0) (S := tabS []) (t := tri_Meet_1.t) mixed (quiet_ext (quiet_ext Xok vec_Dot.ok) vec_Mul_1.ok) (deep_none _) Tryz.func179 (by kernel_rfl) (sok_fn trivial) (by kernel_rfl) (fun x => by kernel_rfl)
end Go.Proofs.Pen

namespace Go.Proofs.Pen
open Go Go.Proofs
noncomputable def tri_Meet.t (x : ((Option Nat × Option Nat × Option Nat) × (Option Nat × Option Nat × Option Nat) × Option Nat × Option Nat × Option Nat) × ((Option Nat × Option Nat × Option Nat) × Option Nat × Option Nat × Option Nat)) : T ((Int × Option Nat × Option Nat × Option Nat) × Bool) := T.opt (box_Of x.1) fun y => T.opt (box_Through (y, x.2)) fun y => T.ite (!y.2.2) (T.ret (((-1 : Int), some (0 : Nat), some (0 : Nat), some (0 : Nat)), false)) (T.opt (tri_Edges x.1) fun y_1 => T.opt (vec_Cross (x.2.2, y_1.snd)) fun y_2 => T.opt (vec_Dot (y_1.fst, y_2)) fun y_3 => T.ite (ford y_3 (some (0 : Nat)) == some Ordering.eq || ford y_3 y_3 != some Ordering.eq) (T.ret (((-1 : Int), some (0 : Nat), some (0 : Nat), some (0 : Nat)), false)) (T.opt (vec_Sub (x.2.1, x.1.1)) fun y_4 => T.opt (vec_Cross (y_4, y_1.fst)) fun y_5 => T.opt (tri_Meet_1 (y_1.snd, y_5, fop BinOp.quo (some (4607182418800017408 : Nat)) y_3)) fun y_6 => T.opt (tri_Meet_1 (y_4, y_2, fop BinOp.quo (some (4607182418800017408 : Nat)) y_3)) fun y_7 => T.opt (tri_Meet_1 (x.2.2, y_5, fop BinOp.quo (some (4607182418800017408 : Nat)) y_3)) fun y_8 => T.ite (!((ford y_7 (some (0 : Nat)) == some Ordering.gt || ford y_7 (some (0 : Nat)) == some Ordering.eq) && (ford y_7 (some (4607182418800017408 : Nat)) == some Ordering.lt || ford y_7 (some (4607182418800017408 : Nat)) == some Ordering.eq) && (ford y_8 (some (0 : Nat)) == some Ordering.gt || ford y_8 (some (0 : Nat)) == some Ordering.eq) && (ford (fop BinOp.add y_7 y_8) (some (4607182418800017408 : Nat)) == some Ordering.lt || ford (fop BinOp.add y_7 y_8) (some (4607182418800017408 : Nat)) == some Ordering.eq)) || !((ford y_6 y.1 == some Ordering.gt || ford y_6 y.1 == some Ordering.eq) && (ford y_6 y.2.1 == some Ordering.lt || ford y_6 y.2.1 == some Ordering.eq) && ford y_6 (some (0 : Nat)) == some Ordering.gt)) (T.ret (((-1 : Int), some (0 : Nat), some (0 : Nat), some (0 : Nat)), false)) (T.ret (((0 : Int), y_6, y_7, y_8), true))))
noncomputable def tri_Meet (x : ((Option Nat × Option Nat × Option Nat) × (Option Nat × Option Nat × Option Nat) × Option Nat × Option Nat × Option Nat) × ((Option Nat × Option Nat × Option Nat) × Option Nat × Option Nat × Option Nat)) : Option ((Int × Option Nat × Option Nat × Option Nat) × Bool) := (tri_Meet.t x).run
noncomputable def tri_Meet.q : List AV → T AV := entry [TTri, TBox] (outR [THit, .bool]) fun x => .opt (tri_Meet x) .ret
theorem tri_Meet.ok : FnOK Tryz.prog 125 tri_Meet.q :=
  entry_call (ps := [TTri, TBox]) (rs := [THit, .bool]) (F := ({ quiet := (ext (ext (ext (ext (ext (ext (ext (ext (ext (ext (ext Xs 47 box_Of.q) 176 box_Through.q) 177 tri_none.q) 149 tri_Edges.q) 95 vec_Cross.q) 178 vec_Dot.q) 179 tri_Meet_1.q) 94 vec_Sub.q) 151 vec_Sub_1.q) 192 vec_Mul_1.q) 212 box_Through_1.q), deep := noDeep } : Fns)) (D := D0) (S := tabS []) (t := tri_Meet.t) mixed (quiet_ext (quiet_ext (quiet_ext (quiet_ext (quiet_ext (quiet_ext (quiet_ext (quiet_ext (quiet_ext (quiet_ext (quiet_ext Xok box_Of.ok) box_Through.ok) tri_none.ok) tri_Edges.ok) vec_Cross.ok) vec_Dot.ok) tri_Meet_1.ok) vec_Sub.ok) vec_Sub_1.ok) vec_Mul_1.ok) box_Through_1.ok) (deep_none _) Tryz.func125 (by kernel_rfl) (sok_fn trivial) (by kernel_rfl) (fun x => by kernel_rfl)
end Go.Proofs.Pen

namespace Go.Proofs.Pen
open Go Go.Proofs
noncomputable def ref04_Empty.t (_ : Unit) : T (((Option Nat × Option Nat × Option Nat) × Option Nat × Option Nat × Option Nat)) := T.opt (math_Inf (1 : Int)) fun y => T.opt (math_Inf (-1 : Int)) fun y_1 => T.ret ((y, y, y), y_1, y_1, y_1)
noncomputable def ref04_Empty (x : Unit) : Option (((Option Nat × Option Nat × Option Nat) × Option Nat × Option Nat × Option Nat)) := (ref04_Empty.t x).run
noncomputable def ref04_Empty.q : List AV → T AV := entry [] (outR [TBox]) fun x => .opt (ref04_Empty x) .ret
theorem ref04_Empty.ok : FnOK Tryz.prog 53 ref04_Empty.q :=
  entry_call (ps := []) (rs := [TBox]) (F := ({ quiet := (ext Xs 71 math_Inf.q), deep := noDeep } : Fns)) (D := D0) (S := tabS []) (t := ref04_Empty.t) mixed (quiet_ext Xok math_Inf.ok) (deep_none _) Tryz.func53 (by kernel_rfl) (sok_fn trivial) (by kernel_rfl) (fun x => by kernel_rfl)
end Go.Proofs.Pen

namespace Go.Proofs.Pen
open Go Go.Proofs
noncomputable def ref04_Low.t (x : (Option Nat) × (Option Nat)) : T ((Option Nat)) := T.ite (ford x.2 x.1 == some Ordering.lt) (T.ret x.2) (T.ret x.1)
noncomputable def ref04_Low (x : (Option Nat) × (Option Nat)) : Option ((Option Nat)) := (ref04_Low.t x).run
noncomputable def ref04_Low.q : List AV → T AV := entry [.flt, .flt] (outR [.flt]) fun x => .opt (ref04_Low x) .ret
theorem ref04_Low.ok : FnOK Tryz.prog 74 ref04_Low.q :=
  entry_call (ps := [.flt, .flt]) (rs := [.flt]) (F := ({ quiet := Xs, deep := noDeep } : Fns)) (D := D0) (S := tabS []) (t := ref04_Low.t) mixed Xok (deep_none _) Tryz.func74 (by kernel_rfl) (sok_fn trivial) (by kernel_rfl) (fun x => by kernel_rfl)
end Go.Proofs.Pen

namespace Go.Proofs.Pen
open Go Go.Proofs
noncomputable def ref04_High.t (x : (Option Nat) × (Option Nat)) : T ((Option Nat)) := T.ite (ford x.2 x.1 == some Ordering.gt) (T.ret x.2) (T.ret x.1)
noncomputable def ref04_High (x : (Option Nat) × (Option Nat)) : Option ((Option Nat)) := (ref04_High.t x).run
noncomputable def ref04_High.q : List AV → T AV := entry [.flt, .flt] (outR [.flt]) fun x => .opt (ref04_High x) .ret
theorem ref04_High.ok : FnOK Tryz.prog 73 ref04_High.q :=
  entry_call (ps := [.flt, .flt]) (rs := [.flt]) (F := ({ quiet := Xs, deep := noDeep } : Fns)) (D := D0) (S := tabS []) (t := ref04_High.t) mixed Xok (deep_none _) Tryz.func73 (by kernel_rfl) (sok_fn trivial) (by kernel_rfl) (fun x => by kernel_rfl)
end Go.Proofs.Pen

namespace Go.Proofs.Pen
open Go Go.Proofs
noncomputable def ref04_Join.t (x : ((Option Nat × Option Nat × Option Nat) × Option Nat × Option Nat × Option Nat) × ((Option Nat × Option Nat × Option Nat) × Option Nat × Option Nat × Option Nat)) : T (((Option Nat × Option Nat × Option Nat) × Option Nat × Option Nat × Option Nat)) := T.opt (ref04_Low (x.1.1.1, x.2.1.1)) fun y => T.opt (ref04_Low (x.1.1.2.1, x.2.1.2.1)) fun y_1 => T.opt (ref04_Low (x.1.1.2.2, x.2.1.2.2)) fun y_2 => T.opt (ref04_High (x.1.2.1, x.2.2.1)) fun y_3 => T.opt (ref04_High (x.1.2.2.1, x.2.2.2.1)) fun y_4 => T.opt (ref04_High (x.1.2.2.2, x.2.2.2.2)) fun y_5 => T.ret ((y, y_1, y_2), y_3, y_4, y_5)
noncomputable def ref04_Join (x : ((Option Nat × Option Nat × Option Nat) × Option Nat × Option Nat × Option Nat) × ((Option Nat × Option Nat × Option Nat) × Option Nat × Option Nat × Option Nat)) : Option (((Option Nat × Option Nat × Option Nat) × Option Nat × Option Nat × Option Nat)) := (ref04_Join.t x).run
noncomputable def ref04_Join.q : List AV → T AV := entry [TBox, TBox] (outR [TBox]) fun x => .opt (ref04_Join x) .ret
theorem ref04_Join.ok : FnOK Tryz.prog 54 ref04_Join.q :=
  entry_call (ps := [TBox, TBox]) (rs := [TBox]) (F := ({ quiet := (ext (ext Xs 74 ref04_Low.q) 73 ref04_High.q), deep := noDeep } : Fns)) (D := D0) (S := tabS []) (t := ref04_Join.t) mixed (quiet_ext (quiet_ext Xok ref04_Low.ok) ref04_High.ok) (deep_none _) Tryz.func54 (by kernel_rfl) (sok_fn trivial) (by kernel_rfl) (fun x => by kernel_rfl)
end Go.Proofs.Pen

namespace Go.Proofs.Pen
open Go Go.Proofs
noncomputable def ref04_Of.t (x : ((Option Nat × Option Nat × Option Nat) × (Option Nat × Option Nat × Option Nat) × Option Nat × Option Nat × Option Nat)) : T (((Option Nat × Option Nat × Option Nat) × Option Nat × Option Nat × Option Nat)) := T.opt (ref04_Empty ()) fun y => T.opt (ref04_Join (y, x.1, x.1)) fun y => T.opt (ref04_Join (y, x.2.1, x.2.1)) fun y => T.opt (ref04_Join (y, x.2.2, x.2.2)) fun y => T.ret y
noncomputable def ref04_Of (x : ((Option Nat × Option Nat × Option Nat) × (Option Nat × Option Nat × Option Nat) × Option Nat × Option Nat × Option Nat)) : Option (((Option Nat × Option Nat × Option Nat) × Option Nat × Option Nat × Option Nat)) := (ref04_Of.t x).run
noncomputable def ref04_Of.q : List AV → T AV := entry [TTri] (outR [TBox]) fun x => .opt (ref04_Of x) .ret
theorem ref04_Of.ok : FnOK Tryz.prog 55 ref04_Of.q :=
  entry_call (ps := [TTri]) (rs := [TBox]) (F := ({ quiet := (ext (ext Xs 53 ref04_Empty.q) 54 ref04_Join.q), deep := noDeep } : Fns)) (D := D0) (S := tabS []) (t := ref04_Of.t) mixed (quiet_ext (quiet_ext Xok ref04_Empty.ok) ref04_Join.ok) (deep_none _) Tryz.func55 (by kernel_rfl) (sok_fn trivial) (by kernel_rfl) (fun x => by kernel_rfl)
end Go.Proofs.Pen

namespace Go.Proofs.Pen
open Go Go.Proofs
noncomputable def ref02_Number.t (x : (Option Nat)) : T (Bool) := T.ret (ford (fop BinOp.sub x x) (some (0 : Nat)) == some Ordering.eq)
noncomputable def ref02_Number.q : List AV → T AV := entry [.flt] (outR [.bool]) ref02_Number.t
theorem ref02_Number.ok : FnOK Tryz.prog 129 ref02_Number.q :=
  entry_in (ps := [.flt]) (rs := [.bool]) (F := ({ quiet := Xs, deep := noDeep } : Fns)) (D := D0) (S := tabS []) (t := ref02_Number.t) mixed Xok (deep_none _) Tryz.func129 (by kernel_rfl) (sok_fn trivial) (by kernel_rfl) (fun x => by kernel_rfl)
end Go.Proofs.Pen

namespace Go.Proofs.Pen
open Go Go.Proofs
noncomputable def ref02_Finite.t (x : (Option Nat × Option Nat × Option Nat)) : T (Bool) := T.ite (ford (fop BinOp.sub x.1 x.1) (some (0 : Nat)) == some Ordering.eq) (T.ite (ford (fop BinOp.sub x.2.1 x.2.1) (some (0 : Nat)) == some Ordering.eq) (T.ret (ford (fop BinOp.sub x.2.2 x.2.2) (some (0 : Nat)) == some Ordering.eq)) (T.ret false)) (T.ret false)
noncomputable def ref02_Finite (x : (Option Nat × Option Nat × Option Nat)) : Option (Bool) := (ref02_Finite.t x).run
noncomputable def ref02_Finite.q : List AV → T AV := entry [TV] (outR [.bool]) fun x => .opt (ref02_Finite x) .ret
theorem ref02_Finite.ok : FnOK Tryz.prog 72 ref02_Finite.q :=
  entry_call (ps := [TV]) (rs := [.bool]) (F := ({ quiet := (ext Xs 129 ref02_Number.q), deep := noDeep } : Fns)) (D := D0) (S := tabS []) (t := ref02_Finite.t) mixed (quiet_ext Xok ref02_Number.ok) (deep_none _) Tryz.func72 (by kernel_rfl) (sok_fn trivial) (by kernel_rfl) (fun x => by kernel_rfl)
end Go.Proofs.Pen

namespace Go.Proofs.Pen
open Go Go.Proofs
noncomputable def ref04_Part.t (x : (Option Nat × Option Nat × Option Nat) × Int) : T ((Option Nat)) := T.ite (x.2 == (0 : Int)) (T.ret x.1.1) (T.ite (x.2 == (1 : Int)) (T.ret x.1.2.1) (T.ret x.1.2.2))
noncomputable def ref04_Part (x : (Option Nat × Option Nat × Option Nat) × Int) : Option ((Option Nat)) := (ref04_Part.t x).run
noncomputable def ref04_Part.q : List AV → T AV := entry [TV, TI] (outR [.flt]) fun x => .opt (ref04_Part x) .ret
theorem ref04_Part.ok : FnOK Tryz.prog 59 ref04_Part.q :=
  entry_call (ps := [TV, TI]) (rs := [.flt]) (F := ({ quiet := Xs, deep := noDeep } : Fns)) (D := D0) (S := tabS []) (t := ref04_Part.t) mixed Xok (deep_none _) Tryz.func59 (by kernel_rfl) (sok_fn trivial) (by kernel_rfl) (fun x => by kernel_rfl)
end Go.Proofs.Pen

namespace Go.Proofs.Pen
open Go Go.Proofs
def ref04_Through.L0 : List (Nat × Lay) := [(2, .box TBox), (3, .box TBox), (7, .val .flt), (8, .val .flt), (9, .val .bool), (10, .val TI)]
noncomputable def ref04_Through.t0 (x : ((Option Nat × Option Nat × Option Nat) × Option Nat × Option Nat × Option Nat) × ((Option Nat × Option Nat × Option Nat) × Option Nat × Option Nat × Option Nat) × (Option Nat) × (Option Nat) × Bool × Int × Unit) : T (Ex × ((Option Nat × Option Nat × Option Nat) × Option Nat × Option Nat × Option Nat) × ((Option Nat × Option Nat × Option Nat) × Option Nat × Option Nat × Option Nat) × (Option Nat) × (Option Nat) × Bool × Int × Unit) := T.ite (decide (x.2.2.2.2.2.1 < (3 : Int)) && x.2.2.2.2.1) (T.opt (ref04_Part (x.2.1.1, x.2.2.2.2.2.1)) fun y => T.opt (ref04_Part (x.2.1.2, x.2.2.2.2.2.1)) fun y_1 => T.opt (ref04_Part (x.1.1, x.2.2.2.2.2.1)) fun y_2 => T.opt (ref04_Part (x.1.2, x.2.2.2.2.2.1)) fun y_3 => T.ite (ford y_1 (some (0 : Nat)) == some Ordering.eq) (T.ret (Ex.normal, x.1, x.2.1, x.2.2.1, x.2.2.2.1, (ford y_2 y == some Ordering.lt || ford y_2 y == some Ordering.eq) && (ford y y_3 == some Ordering.lt || ford y y_3 == some Ordering.eq), W (x.2.2.2.2.2.1 + (1 : Int)), ())) (T.ite (ford (fop BinOp.quo (some (4607182418800017408 : Nat)) y_1) (some (0 : Nat)) == some Ordering.lt) (T.opt (ref04_High (x.2.2.1, fop BinOp.mul (fop BinOp.sub y_3 y) (fop BinOp.quo (some (4607182418800017408 : Nat)) y_1))) fun y_4 => T.opt (ref04_Low (x.2.2.2.1, fop BinOp.mul (fop BinOp.sub y_2 y) (fop BinOp.quo (some (4607182418800017408 : Nat)) y_1))) fun y => T.ret (Ex.normal, x.1, x.2.1, y_4, y, x.2.2.2.2.1, W (x.2.2.2.2.2.1 + (1 : Int)), ())) (T.opt (ref04_High (x.2.2.1, fop BinOp.mul (fop BinOp.sub y_2 y) (fop BinOp.quo (some (4607182418800017408 : Nat)) y_1))) fun y_4 => T.opt (ref04_Low (x.2.2.2.1, fop BinOp.mul (fop BinOp.sub y_3 y) (fop BinOp.quo (some (4607182418800017408 : Nat)) y_1))) fun y => T.ret (Ex.normal, x.1, x.2.1, y_4, y, x.2.2.2.2.1, W (x.2.2.2.2.2.1 + (1 : Int)), ())))) (T.ret (Ex.exit (0 : Nat), x.1, x.2.1, x.2.2.1, x.2.2.2.1, x.2.2.2.2.1, x.2.2.2.2.2.1, ()))
noncomputable def ref04_Through.l0 (x : ((Option Nat × Option Nat × Option Nat) × Option Nat × Option Nat × Option Nat) × ((Option Nat × Option Nat × Option Nat) × Option Nat × Option Nat × Option Nat) × (Option Nat) × (Option Nat) × Bool × Int × Unit) : Option (Ex × ((Option Nat × Option Nat × Option Nat) × Option Nat × Option Nat × Option Nat) × ((Option Nat × Option Nat × Option Nat) × Option Nat × Option Nat × Option Nat) × (Option Nat) × (Option Nat) × Bool × Int × Unit) := (iterT ref04_Through.t0 rounds x).run
theorem ref04_Through.k0 : bodies 0 (lp Tryz.f27 []) = [.loop (loopIn 0 (lp Tryz.f27 []))] ∧ WP Tryz.prog 0 (.block 0 (.loop (loopIn 0 (lp Tryz.f27 [])))) (loopS ref04_Through.L0 98 0 [.exit 0] ref04_Through.l0) :=
  loop_tree (L := ref04_Through.L0) (F := ({ quiet := (ext (ext (ext (ext (ext Xs 71 math_Inf.q) 72 ref02_Finite.q) 59 ref04_Part.q) 73 ref04_High.q) 74 ref04_Low.q), deep := noDeep } : Fns)) (D := D0) (tab := []) (t := ref04_Through.t0) mixed (quiet_ext (quiet_ext (quiet_ext (quiet_ext (quiet_ext Xok math_Inf.ok) ref02_Finite.ok) ref04_Part.ok) ref04_High.ok) ref04_Low.ok) (deep_none _) (fun _ => rfl) (by kernel_rfl) (by kernel_rfl) trivial (fun x => by kernel_rfl)
noncomputable def ref04_Through.t (x : ((Option Nat × Option Nat × Option Nat) × Option Nat × Option Nat × Option Nat) × ((Option Nat × Option Nat × Option Nat) × Option Nat × Option Nat × Option Nat)) : T ((Option Nat) × (Option Nat) × Bool) := T.opt (math_Inf (1 : Int)) fun y => T.opt (ref02_Finite x.2.1) fun y_1 => T.ite y_1 (T.opt (ref02_Finite x.2.2) fun y_2 => T.opt (ref04_Through.l0 (x.1, x.2, some (0 : Nat), y, y_2, (0 : Int), ())) fun y => T.ite (exEq y.1 (Ex.exit (0 : Nat))) (T.ite (y.2.2.2.2.2.1 && (ford y.2.2.2.1 y.2.2.2.2.1 == some Ordering.lt || ford y.2.2.2.1 y.2.2.2.2.1 == some Ordering.eq)) (T.ret (y.2.2.2.1, y.2.2.2.2.1, true)) (T.ret (some (0 : Nat), some (0 : Nat), false))) T.fail) (T.opt (ref04_Through.l0 (x.1, x.2, some (0 : Nat), y, false, (0 : Int), ())) fun y => T.ite (exEq y.1 (Ex.exit (0 : Nat))) (T.ite (y.2.2.2.2.2.1 && (ford y.2.2.2.1 y.2.2.2.2.1 == some Ordering.lt || ford y.2.2.2.1 y.2.2.2.2.1 == some Ordering.eq)) (T.ret (y.2.2.2.1, y.2.2.2.2.1, true)) (T.ret (some (0 : Nat), some (0 : Nat), false))) T.fail)
noncomputable def ref04_Through (x : ((Option Nat × Option Nat × Option Nat) × Option Nat × Option Nat × Option Nat) × ((Option Nat × Option Nat × Option Nat) × Option Nat × Option Nat × Option Nat)) : Option ((Option Nat) × (Option Nat) × Bool) := (ref04_Through.t x).run
noncomputable def ref04_Through.q : List AV → T AV := entry [TBox, TBox] (outR [.flt, .flt, .bool]) fun x => .opt (ref04_Through x) .ret
theorem ref04_Through.ok : FnOK Tryz.prog 27 ref04_Through.q :=
  entry_call (ps := [TBox, TBox]) (rs := [.flt, .flt, .bool]) (F := ({ quiet := (ext (ext (ext (ext (ext Xs 71 math_Inf.q) 72 ref02_Finite.q) 59 ref04_Part.q) 73 ref04_High.q) 74 ref04_Low.q), deep := noDeep } : Fns)) (D := D0) (S := tabS [(0, loopS ref04_Through.L0 98 0 [.exit 0] ref04_Through.l0)]) (t := ref04_Through.t) mixed (quiet_ext (quiet_ext (quiet_ext (quiet_ext (quiet_ext Xok math_Inf.ok) ref02_Finite.ok) ref04_Part.ok) ref04_High.ok) ref04_Low.ok) (deep_none _) Tryz.func27 (by kernel_rfl) (sok_fn ⟨ref04_Through.k0, trivial⟩) (by kernel_rfl) (fun x => by kernel_rfl)
end Go.Proofs.Pen

namespace Go.Proofs.Pen
open Go Go.Proofs
noncomputable def ref02_Sub.t (x : (Option Nat × Option Nat × Option Nat) × (Option Nat × Option Nat × Option Nat)) : T ((Option Nat × Option Nat × Option Nat)) := T.ret (fop BinOp.sub x.1.1 x.2.1, fop BinOp.sub x.1.2.1 x.2.2.1, fop BinOp.sub x.1.2.2 x.2.2.2)
noncomputable def ref02_Sub (x : (Option Nat × Option Nat × Option Nat) × (Option Nat × Option Nat × Option Nat)) : Option ((Option Nat × Option Nat × Option Nat)) := (ref02_Sub.t x).run
noncomputable def ref02_Sub.q : List AV → T AV := entry [TV, TV] (outR [TV]) fun x => .opt (ref02_Sub x) .ret
theorem ref02_Sub.ok : FnOK Tryz.prog 119 ref02_Sub.q :=
  entry_call (ps := [TV, TV]) (rs := [TV]) (F := ({ quiet := Xs, deep := noDeep } : Fns)) (D := D0) (S := tabS []) (t := ref02_Sub.t) mixed Xok (deep_none _) Tryz.func119 (by kernel_rfl) (sok_fn trivial) (by kernel_rfl) (fun x => by kernel_rfl)
end Go.Proofs.Pen

namespace Go.Proofs.Pen
open Go Go.Proofs
noncomputable def ref02_less.t (x : (Option Nat) × (Option Nat) × (Option Nat) × (Option Nat)) : T ((Option Nat)) := T.ret (fop BinOp.sub (fop BinOp.mul x.1 x.2.1) (fop BinOp.mul x.2.2.1 x.2.2.2))
noncomputable def ref02_less.q : List AV → T AV := entry [.flt, .flt, .flt, .flt] (outR [.flt]) ref02_less.t
theorem ref02_less.ok : FnOK Tryz.prog 174 ref02_less.q :=
  entry_in (ps := [.flt, .flt, .flt, .flt]) (rs := [.flt]) (F := ({ quiet := Xs, deep := noDeep } : Fns)) (D := D0) (S := tabS []) (t := ref02_less.t) mixed Xok (deep_none _) Tryz.func174 (by kernel_rfl) (sok_fn trivial) (by kernel_rfl) (fun x => by kernel_rfl)
end Go.Proofs.Pen

namespace Go.Proofs.Pen
open Go Go.Proofs
noncomputable def ref02_Cross.t (x : (Option Nat × Option Nat × Option Nat) × (Option Nat × Option Nat × Option Nat)) : T ((Option Nat × Option Nat × Option Nat)) := T.ret (fop BinOp.sub (fop BinOp.mul x.1.2.1 x.2.2.2) (fop BinOp.mul x.1.2.2 x.2.2.1), fop BinOp.sub (fop BinOp.mul x.1.2.2 x.2.1) (fop BinOp.mul x.1.1 x.2.2.2), fop BinOp.sub (fop BinOp.mul x.1.1 x.2.2.1) (fop BinOp.mul x.1.2.1 x.2.1))
noncomputable def ref02_Cross (x : (Option Nat × Option Nat × Option Nat) × (Option Nat × Option Nat × Option Nat)) : Option ((Option Nat × Option Nat × Option Nat)) := (ref02_Cross.t x).run
noncomputable def ref02_Cross.q : List AV → T AV := entry [TV, TV] (outR [TV]) fun x => .opt (ref02_Cross x) .ret
theorem ref02_Cross.ok : FnOK Tryz.prog 121 ref02_Cross.q :=
  entry_call (ps := [TV, TV]) (rs := [TV]) (F := ({ quiet := (ext Xs 174 ref02_less.q), deep := noDeep } : Fns)) (D := D0) (S := tabS []) (t := ref02_Cross.t) mixed (quiet_ext Xok ref02_less.ok) (deep_none _) Tryz.func121 (by kernel_rfl) (sok_fn trivial) (by kernel_rfl) (fun x => by kernel_rfl)
end Go.Proofs.Pen

namespace Go.Proofs.Pen
open Go Go.Proofs
noncomputable def ref02_Dot.t (x : (Option Nat × Option Nat × Option Nat) × (Option Nat × Option Nat × Option Nat)) : T ((Option Nat)) := T.ret (fop BinOp.add (fop BinOp.add (fop BinOp.mul x.1.1 x.2.1) (fop BinOp.mul x.1.2.1 x.2.2.1)) (fop BinOp.mul x.1.2.2 x.2.2.2))
noncomputable def ref02_Dot (x : (Option Nat × Option Nat × Option Nat) × (Option Nat × Option Nat × Option Nat)) : Option ((Option Nat)) := (ref02_Dot.t x).run
noncomputable def ref02_Dot.q : List AV → T AV := entry [TV, TV] (outR [.flt]) fun x => .opt (ref02_Dot x) .ret
theorem ref02_Dot.ok : FnOK Tryz.prog 122 ref02_Dot.q :=
  entry_call (ps := [TV, TV]) (rs := [.flt]) (F := ({ quiet := Xs, deep := noDeep } : Fns)) (D := D0) (S := tabS []) (t := ref02_Dot.t) mixed Xok (deep_none _) Tryz.func122 (by kernel_rfl) (sok_fn trivial) (by kernel_rfl) (fun x => by kernel_rfl)
end Go.Proofs.Pen

namespace Go.Proofs.Pen
open Go Go.Proofs
noncomputable def ref10_Meet.t (x : ((Option Nat × Option Nat × Option Nat) × (Option Nat × Option Nat × Option Nat) × Option Nat × Option Nat × Option Nat) × ((Option Nat × Option Nat × Option Nat) × Option Nat × Option Nat × Option Nat)) : T ((Option Nat) × (Option Nat) × (Option Nat) × Bool) := T.opt (ref04_Of x.1) fun y => T.opt (ref04_Through (y, x.2)) fun y => T.opt (ref02_Sub (x.1.2.1, x.1.1)) fun y_1 => T.opt (ref02_Sub (x.1.2.2, x.1.1)) fun y_2 => T.opt (ref02_Cross (x.2.2, y_2)) fun y_3 => T.opt (ref02_Dot (y_1, y_3)) fun y_4 => T.ite (!y.2.2 || !(ford y_4 (some (0 : Nat)) == some Ordering.lt || ford y_4 (some (0 : Nat)) == some Ordering.gt)) (T.ret (some (0 : Nat), some (0 : Nat), some (0 : Nat), false)) (T.opt (ref02_Sub (x.2.1, x.1.1)) fun y_5 => T.opt (ref02_Cross (y_5, y_1)) fun y_6 => T.opt (ref02_Dot (y_5, y_3)) fun y_7 => T.opt (ref02_Dot (x.2.2, y_6)) fun y_8 => T.opt (ref02_Dot (y_2, y_6)) fun y_9 => T.ite ((ford (fop BinOp.mul y_7 (fop BinOp.quo (some (4607182418800017408 : Nat)) y_4)) (some (0 : Nat)) == some Ordering.gt || ford (fop BinOp.mul y_7 (fop BinOp.quo (some (4607182418800017408 : Nat)) y_4)) (some (0 : Nat)) == some Ordering.eq) && (ford (fop BinOp.mul y_7 (fop BinOp.quo (some (4607182418800017408 : Nat)) y_4)) (some (4607182418800017408 : Nat)) == some Ordering.lt || ford (fop BinOp.mul y_7 (fop BinOp.quo (some (4607182418800017408 : Nat)) y_4)) (some (4607182418800017408 : Nat)) == some Ordering.eq) && (ford (fop BinOp.mul y_8 (fop BinOp.quo (some (4607182418800017408 : Nat)) y_4)) (some (0 : Nat)) == some Ordering.gt || ford (fop BinOp.mul y_8 (fop BinOp.quo (some (4607182418800017408 : Nat)) y_4)) (some (0 : Nat)) == some Ordering.eq) && (ford (fop BinOp.add (fop BinOp.mul y_7 (fop BinOp.quo (some (4607182418800017408 : Nat)) y_4)) (fop BinOp.mul y_8 (fop BinOp.quo (some (4607182418800017408 : Nat)) y_4))) (some (4607182418800017408 : Nat)) == some Ordering.lt || ford (fop BinOp.add (fop BinOp.mul y_7 (fop BinOp.quo (some (4607182418800017408 : Nat)) y_4)) (fop BinOp.mul y_8 (fop BinOp.quo (some (4607182418800017408 : Nat)) y_4))) (some (4607182418800017408 : Nat)) == some Ordering.eq) && (ford (fop BinOp.mul y_9 (fop BinOp.quo (some (4607182418800017408 : Nat)) y_4)) y.1 == some Ordering.gt || ford (fop BinOp.mul y_9 (fop BinOp.quo (some (4607182418800017408 : Nat)) y_4)) y.1 == some Ordering.eq) && (ford (fop BinOp.mul y_9 (fop BinOp.quo (some (4607182418800017408 : Nat)) y_4)) y.2.1 == some Ordering.lt || ford (fop BinOp.mul y_9 (fop BinOp.quo (some (4607182418800017408 : Nat)) y_4)) y.2.1 == some Ordering.eq) && ford (fop BinOp.mul y_9 (fop BinOp.quo (some (4607182418800017408 : Nat)) y_4)) (some (0 : Nat)) == some Ordering.gt) (T.ret (fop BinOp.mul y_9 (fop BinOp.quo (some (4607182418800017408 : Nat)) y_4), fop BinOp.mul y_7 (fop BinOp.quo (some (4607182418800017408 : Nat)) y_4), fop BinOp.mul y_8 (fop BinOp.quo (some (4607182418800017408 : Nat)) y_4), true)) (T.ret (some (0 : Nat), some (0 : Nat), some (0 : Nat), false)))
noncomputable def ref10_Meet (x : ((Option Nat × Option Nat × Option Nat) × (Option Nat × Option Nat × Option Nat) × Option Nat × Option Nat × Option Nat) × ((Option Nat × Option Nat × Option Nat) × Option Nat × Option Nat × Option Nat)) : Option ((Option Nat) × (Option Nat) × (Option Nat) × Bool) := (ref10_Meet.t x).run
noncomputable def ref10_Meet.q : List AV → T AV := entry [TTri, TBox] (outR [.flt, .flt, .flt, .bool]) fun x => .opt (ref10_Meet x) .ret
theorem ref10_Meet.ok : FnOK Tryz.prog 64 ref10_Meet.q :=
  entry_call (ps := [TTri, TBox]) (rs := [.flt, .flt, .flt, .bool]) (F := ({ quiet := (ext (ext (ext (ext (ext Xs 55 ref04_Of.q) 27 ref04_Through.q) 119 ref02_Sub.q) 121 ref02_Cross.q) 122 ref02_Dot.q), deep := noDeep } : Fns)) (D := D0) (S := tabS []) (t := ref10_Meet.t) mixed (quiet_ext (quiet_ext (quiet_ext (quiet_ext (quiet_ext Xok ref04_Of.ok) ref04_Through.ok) ref02_Sub.ok) ref02_Cross.ok) ref02_Dot.ok) (deep_none _) Tryz.func64 (by kernel_rfl) (sok_fn trivial) (by kernel_rfl) (fun x => by kernel_rfl)
end Go.Proofs.Pen

namespace Go.Proofs.Pen
open Go Go.Proofs
noncomputable def ref02_Same.t (x : (Option Nat) × (Option Nat)) : T (Bool) := T.ret (ford x.1 x.2 == some Ordering.eq || ford x.1 x.1 != some Ordering.eq && ford x.2 x.2 != some Ordering.eq)
noncomputable def ref02_Same.q : List AV → T AV := entry [.flt, .flt] (outR [.bool]) ref02_Same.t
theorem ref02_Same.ok : FnOK Tryz.prog 76 ref02_Same.q :=
  entry_in (ps := [.flt, .flt]) (rs := [.bool]) (F := ({ quiet := Xs, deep := noDeep } : Fns)) (D := D0) (S := tabS []) (t := ref02_Same.t) mixed Xok (deep_none _) Tryz.func76 (by kernel_rfl) (sok_fn trivial) (by kernel_rfl) (fun x => by kernel_rfl)
end Go.Proofs.Pen

namespace Go.Proofs.Pen
open Go Go.Proofs
noncomputable def ref10_Is.t (x : (Int × Option Nat × Option Nat × Option Nat) × (Int × Option Nat × Option Nat × Option Nat)) : T (Bool) := T.ite (x.1.1 == x.2.1) (T.ite (ford x.1.2.1 x.2.2.1 == some Ordering.eq || ford x.1.2.1 x.1.2.1 != some Ordering.eq && ford x.2.2.1 x.2.2.1 != some Ordering.eq) (T.ite (ford x.1.2.2.1 x.2.2.2.1 == some Ordering.eq || ford x.1.2.2.1 x.1.2.2.1 != some Ordering.eq && ford x.2.2.2.1 x.2.2.2.1 != some Ordering.eq) (T.ret (ford x.1.2.2.2 x.2.2.2.2 == some Ordering.eq || ford x.1.2.2.2 x.1.2.2.2 != some Ordering.eq && ford x.2.2.2.2 x.2.2.2.2 != some Ordering.eq)) (T.ret false)) (T.ret false)) (T.ret false)
noncomputable def ref10_Is (x : (Int × Option Nat × Option Nat × Option Nat) × (Int × Option Nat × Option Nat × Option Nat)) : Option (Bool) := (ref10_Is.t x).run
noncomputable def ref10_Is.q : List AV → T AV := entry [THit, THit] (outR [.bool]) fun x => .opt (ref10_Is x) .ret
theorem ref10_Is.ok : FnOK Tryz.prog 29 ref10_Is.q :=
  entry_call (ps := [THit, THit]) (rs := [.bool]) (F := ({ quiet := (ext Xs 76 ref02_Same.q), deep := noDeep } : Fns)) (D := D0) (S := tabS []) (t := ref10_Is.t) mixed (quiet_ext Xok ref02_Same.ok) (deep_none _) Tryz.func29 (by kernel_rfl) (sok_fn trivial) (by kernel_rfl) (fun x => by kernel_rfl)
end Go.Proofs.Pen

namespace Go.Proofs.Pen
open Go Go.Proofs

/-! ### Vectors, boxes, rays: both texts do the same operations -/
abbrev Fl := Option Nat
abbrev V3 := Fl × Fl × Fl
abbrev Bx := V3 × V3
abbrev Tr := V3 × V3 × V3
abbrev Ht := Int × Fl × Fl × Fl

abbrev f0 : Fl := some 0
abbrev f1 : Fl := some 4607182418800017408
abbrev fInf : Fl := some 9218868437227405312
abbrev fNeg : Fl := some 18442240474082181120
def flt (a b : Fl) : Bool := ford a b == some .lt
def feq (a b : Fl) : Bool := ford a b == some .eq
def fle (a b : Fl) : Bool := ford a b == some .lt || ford a b == some .eq
def fge (a b : Fl) : Bool := ford a b == some .gt || ford a b == some .eq
def fgt (a b : Fl) : Bool := ford a b == some .gt
def fLow (a b : Fl) : Fl := if flt b a then b else a
def fHigh (a b : Fl) : Fl := if fgt b a then b else a
def vSub (a b : V3) : V3 := (fop .sub a.1 b.1, fop .sub a.2.1 b.2.1, fop .sub a.2.2 b.2.2)
def vCross (a b : V3) : V3 := (fop .sub (fop .mul a.2.1 b.2.2) (fop .mul a.2.2 b.2.1), fop .sub (fop .mul a.2.2 b.1) (fop .mul a.1 b.2.2), fop .sub (fop .mul a.1 b.2.1) (fop .mul a.2.1 b.1))
def vDot (a b : V3) : Fl := fop .add (fop .add (fop .mul a.1 b.1) (fop .mul a.2.1 b.2.1)) (fop .mul a.2.2 b.2.2)
def bJoin (a b : Bx) : Bx := ((fLow a.1.1 b.1.1, fLow a.1.2.1 b.1.2.1, fLow a.1.2.2 b.1.2.2), fHigh a.2.1 b.2.1, fHigh a.2.2.1 b.2.2.1, fHigh a.2.2.2 b.2.2.2)
def bNone : Bx := ((fInf, fInf, fInf), fNeg, fNeg, fNeg)
def bGrow (b : Bx) (p : V3) : Bx := bJoin b (p, p)
def bOf (t : Tr) : Bx := bGrow (bGrow (bGrow bNone t.1) t.2.1) t.2.2
/-- A finite number. -/
def fNum (a : Fl) : Bool := kle (some (-9218868437227405311)) (okey a) && kle (okey a) (some 9218868437227405311)
def vNum (a : V3) : Bool := fNum a.1 && fNum a.2.1 && fNum a.2.2

theorem okey_lit {n : Nat} {i : Int} (h1 : frung n ≤ 9218868437227405312) (h2 : fkey n = i) : okey (some n) = some i := by
  simp only [okey]; rw [if_pos h1, h2]
theorem okey_max : okey (some 9218868437227405311) = some 9218868437227405311 := okey_lit (by decide) (by decide)
theorem okey_min : okey (some 18442240474082181119) = some (-9218868437227405311) := okey_lit (by decide) (by decide)
theorem okey_0 : okey f0 = some 0 := okey_lit (by decide) (by decide)
theorem okey_1 : okey f1 = some 4607182418800017408 := okey_lit (by decide) (by decide)
theorem okey_inf : okey fInf = some 9218868437227405312 := okey_lit (by decide) (by decide)
theorem okey_neg : okey fNeg = some (-9218868437227405312) := okey_lit (by decide) (by decide)

theorem num_range (x : Fl) : ((ford x (some 18442240474082181119) == some .gt || ford x (some 18442240474082181119) == some .eq) && (ford x (some 9218868437227405311) == some .lt || ford x (some 9218868437227405311) == some .eq)) = fNum x := by
  rw [ford_ge, ford_le, okey_max, okey_min]; rfl

theorem sub_self_fin {w : Nat} (h : frung w < 9218868437227405312) : FF.sub w w = some 0 := by
  obtain ⟨m, p, e, hp, _⟩ := read_val w h
  unfold Ieee.Format.sub
  rw [e]
  simp only [Ieee.Datum.opposite, Ieee.Datum.sum]
  have hs : ∀ s : Bool, Ieee.signed s m (p - min p p).toNat + Ieee.signed (!s) m (p - min p p).toNat = 0 := fun s => by
    rw [signed_eq, signed_eq]
    cases s <;> simp only [sg, Bool.not_true, Bool.not_false, if_true, Bool.false_eq_true, if_false] <;> omega
  simp only [hs]
  cases fsgn w <;> rfl
theorem num_sub (x : Fl) : (ford (fop .sub x x) (some 0) == some .eq) = fNum x := by
  cases x with
  | none => rfl
  | some w =>
    show (ford (FF.sub w w) (some 0) == some .eq) = _
    unfold fNum
    rcases Nat.lt_trichotomy (frung w) 9218868437227405312 with h | h | h
    · rw [sub_self_fin h, okey_lit (Nat.le_of_lt h) rfl]
      unfold fkey sg kle
      rw [show (ford (some 0) (some 0) == some Ordering.eq) = true by decide +kernel]
      symm
      rw [Bool.and_eq_true, decide_eq_true_eq, decide_eq_true_eq]
      split <;> omega
    · have e : FF.sub w w = none := by
        unfold Ieee.Format.sub
        rw [read_inf w h]
        cases fsgn w <;> rfl
      rw [e, okey_lit (Nat.le_of_eq h) rfl]
      unfold fkey sg kle
      rw [h]
      cases fsgn w <;> rfl
    · obtain ⟨t, e⟩ := read_noN w h
      have e : FF.sub w w = none := by
        unfold Ieee.Format.sub
        rw [e]; rfl
      have e2 : okey (some w) = none := by simp only [okey]; rw [if_neg (by omega)]
      rw [e, e2]; rfl

theorem math_Inf_eq : math_Inf 1 = some fInf := rfl
theorem math_Ninf_eq : math_Inf (-1) = some fNeg := rfl
theorem neg_inf : Option.map (Op.negFloat FloatKind.f64) fInf = fNeg := by decide +kernel

theorem box_less_eq (a b : Fl) : box_less (a, b) = some (fLow a b) := by
  unfold box_less box_less.t fLow flt
  simp only [tr_ite, tr_ret]
  split <;> rfl
theorem box_more_eq (a b : Fl) : box_more (a, b) = some (fHigh a b) := by
  unfold box_more box_more.t fHigh fgt
  simp only [tr_ite, tr_ret]
  split <;> rfl
theorem ref04_Low_eq (a b : Fl) : ref04_Low (a, b) = some (fLow a b) := by
  unfold ref04_Low ref04_Low.t fLow flt
  simp only [tr_ite, tr_ret]
  split <;> rfl
theorem ref04_High_eq (a b : Fl) : ref04_High (a, b) = some (fHigh a b) := by
  unfold ref04_High ref04_High.t fHigh fgt
  simp only [tr_ite, tr_ret]
  split <;> rfl
theorem box_Empty_eq (u : Unit) : box_Empty u = some bNone := by
  unfold box_Empty box_Empty.t
  simp only [tr_opt, math_Inf_eq, Option.bind_some, tr_ret, neg_inf]
  rfl
theorem ref04_Empty_eq (u : Unit) : ref04_Empty u = some bNone := by
  unfold ref04_Empty ref04_Empty.t
  simp only [tr_opt, math_Inf_eq, math_Ninf_eq, Option.bind_some, tr_ret]
  rfl
theorem box_Join_eq (a b : Bx) : box_Join (a, b) = some (bJoin a b) := by
  unfold box_Join box_Join.t bJoin
  simp only [tr_opt, box_less_eq, box_more_eq, Option.bind_some, tr_ret]
theorem ref04_Join_eq (a b : Bx) : ref04_Join (a, b) = some (bJoin a b) := by
  unfold ref04_Join ref04_Join.t bJoin
  simp only [tr_opt, ref04_Low_eq, ref04_High_eq, Option.bind_some, tr_ret]
theorem box_Grow_eq (b : Bx) (p : V3) : box_Grow (b, p) = some (bGrow b p) := by
  unfold box_Grow box_Grow.t bGrow
  simp only [tr_opt, box_Join_eq, Option.bind_some, tr_ret]
theorem box_Of_eq (t : Tr) : box_Of t = some (bOf t) := by
  unfold box_Of box_Of.t bOf
  simp only [tr_opt, box_Empty_eq, box_Grow_eq, Option.bind_some, tr_ret]
theorem ref04_Of_eq (t : Tr) : ref04_Of t = some (bOf t) := by
  unfold ref04_Of ref04_Of.t bOf bGrow
  simp only [tr_opt, ref04_Empty_eq, ref04_Join_eq, Option.bind_some, tr_ret]
theorem vec_Sub_eq (a b : V3) : vec_Sub (a, b) = some (vSub a b) := rfl
theorem ref02_Sub_eq (a b : V3) : ref02_Sub (a, b) = some (vSub a b) := rfl
theorem vec_Cross_eq (a b : V3) : vec_Cross (a, b) = some (vCross a b) := rfl
theorem ref02_Cross_eq (a b : V3) : ref02_Cross (a, b) = some (vCross a b) := rfl
theorem vec_Dot_eq (a b : V3) : vec_Dot (a, b) = some (vDot a b) := rfl
theorem ref02_Dot_eq (a b : V3) : ref02_Dot (a, b) = some (vDot a b) := rfl
theorem vec_Finite_eq (a : V3) : vec_Finite a = some (vNum a) := by
  unfold vec_Finite vec_Finite.t vNum
  simp only [tr_ite, tr_ret, num_range]
  cases fNum a.1 <;> cases fNum a.2.1 <;> rfl
theorem ref02_Finite_eq (a : V3) : ref02_Finite a = some (vNum a) := by
  unfold ref02_Finite ref02_Finite.t vNum
  simp only [tr_ite, tr_ret, num_sub]
  cases fNum a.1 <;> cases fNum a.2.1 <;> rfl

/-! ### A ray through a box -/
/-- Between two planes; 'none': beside them. -/
def slab (lo hi o d : Fl) (x : Fl × Fl) : Option (Fl × Fl) :=
  if feq d f0 then (if fle lo o && fle o hi then some x else none)
  else if flt (fop .quo f1 d) f0 then some (fHigh x.1 (fop .mul (fop .sub hi o) (fop .quo f1 d)), fLow x.2 (fop .mul (fop .sub lo o) (fop .quo f1 d)))
  else some (fHigh x.1 (fop .mul (fop .sub lo o) (fop .quo f1 d)), fLow x.2 (fop .mul (fop .sub hi o) (fop .quo f1 d)))
def part3 (a : V3) (k : Nat) : Fl := match k with
  | 0 => a.1
  | 1 => a.2.1
  | _ => a.2.2
def slabs (b r : Bx) (k : Nat) (x : Fl × Fl) : Option (Fl × Fl) := slab (part3 b.1 k) (part3 b.2 k) (part3 r.1 k) (part3 r.2 k) x
def thru (b r : Bx) : Option (Fl × Fl) :=
  if vNum r.1 && vNum r.2 then ((slabs b r 0 (f0, fInf)).bind (slabs b r 1)).bind fun x => (slabs b r 2 x).bind fun x => if fle x.1 x.2 then some x else none
  else none
def thr (b r : Bx) : Fl × Fl × Bool := match thru b r with
  | some x => (x.1, x.2, true)
  | none => (f0, f0, false)

theorem vec_Part_eq (a : V3) {k : Nat} (h : k < 3) : vec_Part (a, (k : Int)) = some (part3 a k) := by
  rcases k with _ | _ | _ | k
  · rfl
  · rfl
  · rfl
  · omega
theorem ref04_Part_eq (a : V3) {k : Nat} (h : k < 3) : ref04_Part (a, (k : Int)) = some (part3 a k) := by
  rcases k with _ | _ | _ | k
  · rfl
  · rfl
  · rfl
  · omega

theorem Through_step (b r : Bx) (n f : Fl) (q1 q2 : Fl) (q3 : Bool) {k : Nat} (h : k < 3) :
    (box_Through.t0 (b, r, q1, q2, q3, n, f, (k : Int), ())).run = some (match slabs b r k (n, f) with
      | some x => (.normal, b, r, q1, q2, q3, x.1, x.2, ((k + 1 : Nat) : Int), ())
      | none => (.ret, b, r, f0, f0, false, n, f, (k : Int), ())) := by
  unfold box_Through.t0 slabs slab
  dsimp only
  simp only [tr_ite, tr_opt, tr_ret, vec_Part_eq _ h, Option.bind_some, box_more_eq, box_less_eq, W_succ (show k < 1000 by omega)]
  rw [if_pos (decide_eq_true (by omega))]
  by_cases h1 : feq (part3 r.2 k) f0 = true
  · rw [if_pos h1, if_pos (show (ford (part3 r.2 k) (some 0) == some Ordering.eq) = true from h1)]
    by_cases h2 : (fle (part3 b.1 k) (part3 r.1 k) && fle (part3 r.1 k) (part3 b.2 k)) = true
    · rw [if_pos h2, if_neg (by rw [Bool.not_eq_true']; intro h3; have h3 : (fle (part3 b.1 k) (part3 r.1 k) && fle (part3 r.1 k) (part3 b.2 k)) = false := h3; rw [h2] at h3; cases h3)]
    · have h3 : (fle (part3 b.1 k) (part3 r.1 k) && fle (part3 r.1 k) (part3 b.2 k)) = false := by simpa using h2
      rw [if_neg h2, if_pos (by rw [Bool.not_eq_true']; exact h3)]
  · rw [if_neg h1, if_neg (show ¬ (ford (part3 r.2 k) (some 0) == some Ordering.eq) = true from h1)]
    by_cases h2 : flt (fop .quo f1 (part3 r.2 k)) f0 = true
    · rw [if_pos h2, if_pos (show (ford (fop .quo f1 (part3 r.2 k)) (some 0) == some Ordering.lt) = true from h2)]
    · rw [if_neg h2, if_neg (show ¬ (ford (fop .quo f1 (part3 r.2 k)) (some 0) == some Ordering.lt) = true from h2)]
theorem Through_end (b r : Bx) (n f : Fl) (q1 q2 : Fl) (q3 : Bool) :
    (box_Through.t0 (b, r, q1, q2, q3, n, f, ((3 : Nat) : Int), ())).run = some (.exit 0, b, r, q1, q2, q3, n, f, ((3 : Nat) : Int), ()) := rfl

theorem box_Through_eq (b r : Bx) : box_Through (b, r) = some (thr b r) := by
  unfold box_Through box_Through.t thr thru
  simp only [tr_opt, tr_ite, tr_ret, vec_Finite_eq, Option.bind_some, math_Inf_eq, Bool.not_eq_true']
  cases hA : vNum r.1
  · simp
  cases hB : vNum r.2
  · simp
  simp only [Bool.true_and, if_true, Bool.true_eq_false, if_false]
  obtain ⟨k, hk⟩ : ∃ k, rounds = k + 4 := ⟨rounds - 4, by unfold rounds; omega⟩
  unfold box_Through.l0
  rw [hk]
  have s0 : (box_Through.t0 (b, r, some 0, some 0, false, some 0, fInf, (0 : Int), ())).run = _ := Through_step b r f0 fInf f0 f0 false (k := 0) (by omega)
  cases e0 : slabs b r 0 (f0, fInf) with
  | none =>
    rw [e0] at s0
    rw [iter_step s0]; rfl
  | some x0 =>
    rw [e0] at s0
    rw [iter_step s0]
    have s1 := Through_step b r x0.1 x0.2 f0 f0 false (k := 1) (by omega)
    simp only [Option.bind_some]
    cases e1 : slabs b r 1 x0 with
    | none =>
      rw [show ((x0.1, x0.2) : Fl × Fl) = x0 from rfl, e1] at s1
      rw [iter_step s1]; rfl
    | some x1 =>
      rw [show ((x0.1, x0.2) : Fl × Fl) = x0 from rfl, e1] at s1
      rw [iter_step s1]
      have s2 := Through_step b r x1.1 x1.2 f0 f0 false (k := 2) (by omega)
      simp only [Option.bind_some]
      cases e2 : slabs b r 2 x1 with
      | none =>
        rw [show ((x1.1, x1.2) : Fl × Fl) = x1 from rfl, e2] at s2
        rw [iter_step s2]; rfl
      | some x2 =>
        rw [show ((x1.1, x1.2) : Fl × Fl) = x1 from rfl, e2] at s2
        rw [iter_step s2, iter_step (Through_end b r x2.1 x2.2 f0 f0 false)]
        simp only [Option.bind_some]
        have hx : exEq (Ex.exit 0) (Ex.exit 0) = true := rfl
        rw [if_pos hx]
        show (if fle x2.1 x2.2 = false then _ else _) = _
        cases fle x2.1 x2.2 <;> rfl

theorem RThrough_step (b r : Bx) (n f : Fl) {k : Nat} (h : k < 3) :
    (ref04_Through.t0 (b, r, n, f, true, (k : Int), ())).run = some (match slabs b r k (n, f) with
      | some x => (.normal, b, r, x.1, x.2, true, ((k + 1 : Nat) : Int), ())
      | none => (.normal, b, r, n, f, false, ((k + 1 : Nat) : Int), ())) := by
  unfold ref04_Through.t0 slabs slab
  dsimp only
  simp only [tr_ite, tr_opt, tr_ret, ref04_Part_eq _ h, Option.bind_some, ref04_High_eq, ref04_Low_eq, W_succ (show k < 1000 by omega)]
  rw [if_pos (by rw [Bool.and_true]; exact decide_eq_true (by omega))]
  by_cases h1 : feq (part3 r.2 k) f0 = true
  · rw [if_pos h1, if_pos (show (ford (part3 r.2 k) (some 0) == some Ordering.eq) = true from h1)]
    show some (Ex.normal, b, r, n, f, (fle (part3 b.1 k) (part3 r.1 k) && fle (part3 r.1 k) (part3 b.2 k)), ((k + 1 : Nat) : Int), ()) = _
    cases (fle (part3 b.1 k) (part3 r.1 k) && fle (part3 r.1 k) (part3 b.2 k)) <;> rfl
  · rw [if_neg h1, if_neg (show ¬ (ford (part3 r.2 k) (some 0) == some Ordering.eq) = true from h1)]
    by_cases h2 : flt (fop .quo f1 (part3 r.2 k)) f0 = true
    · rw [if_pos h2, if_pos (show (ford (fop .quo f1 (part3 r.2 k)) (some 0) == some Ordering.lt) = true from h2)]
    · rw [if_neg h2, if_neg (show ¬ (ford (fop .quo f1 (part3 r.2 k)) (some 0) == some Ordering.lt) = true from h2)]
theorem RThrough_end (b r : Bx) (n f : Fl) (ok : Bool) (k : Nat) (h : ok = false ∨ k = 3) :
    (ref04_Through.t0 (b, r, n, f, ok, (k : Int), ())).run = some (.exit 0, b, r, n, f, ok, (k : Int), ()) := by
  unfold ref04_Through.t0
  dsimp only
  rw [tr_ite, if_neg, tr_ret]
  rcases h with rfl | rfl
  · simp
  · simp

theorem ref04_Through_eq (b r : Bx) : ref04_Through (b, r) = some (thr b r) := by
  unfold ref04_Through ref04_Through.t thr thru
  simp only [tr_opt, tr_ite, tr_ret, ref02_Finite_eq, Option.bind_some, math_Inf_eq]
  have hx : exEq (Ex.exit 0) (Ex.exit 0) = true := rfl
  obtain ⟨k, hk⟩ : ∃ k, rounds = k + 4 := ⟨rounds - 4, by unfold rounds; omega⟩
  have stop : ∀ (n f : Fl) (j m : Nat), (iterT ref04_Through.t0 (m + 1) (b, r, n, f, false, (j : Int), ())).run = some (.exit 0, b, r, n, f, false, (j : Int), ()) := fun n f j m => by
    rw [iter_step (RThrough_end b r n f false j (.inl rfl))]
  have no : ref04_Through.l0 (b, r, some 0, fInf, false, 0, ()) = some (.exit 0, b, r, some 0, fInf, false, 0, ()) := by
    unfold ref04_Through.l0
    rw [hk]; exact stop f0 fInf 0 (k + 3)
  cases hA : vNum r.1
  · rw [if_neg (by simp), no]
    simp [hx]
  cases hB : vNum r.2
  · rw [if_pos rfl, no]
    simp [hx]
  rw [if_pos rfl]
  simp only [Bool.true_and, if_true]
  unfold ref04_Through.l0
  rw [hk]
  have s0 : (ref04_Through.t0 (b, r, some 0, fInf, true, (0 : Int), ())).run = _ := RThrough_step b r f0 fInf (k := 0) (by omega)
  cases e0 : slabs b r 0 (f0, fInf) with
  | none =>
    rw [e0] at s0
    rw [iter_step s0, stop]
    simp [hx]
  | some x0 =>
    rw [e0] at s0
    rw [iter_step s0]
    have s1 := RThrough_step b r x0.1 x0.2 (k := 1) (by omega)
    simp only [Option.bind_some]
    cases e1 : slabs b r 1 x0 with
    | none =>
      rw [show ((x0.1, x0.2) : Fl × Fl) = x0 from rfl, e1] at s1
      rw [iter_step s1, stop]
      simp [hx]
    | some x1 =>
      rw [show ((x0.1, x0.2) : Fl × Fl) = x0 from rfl, e1] at s1
      rw [iter_step s1]
      have s2 := RThrough_step b r x1.1 x1.2 (k := 2) (by omega)
      simp only [Option.bind_some]
      cases e2 : slabs b r 2 x1 with
      | none =>
        rw [show ((x1.1, x1.2) : Fl × Fl) = x1 from rfl, e2] at s2
        rw [iter_step s2, stop]
        simp [hx]
      | some x2 =>
        rw [show ((x1.1, x1.2) : Fl × Fl) = x1 from rfl, e2] at s2
        rw [iter_step s2, iter_step (RThrough_end b r x2.1 x2.2 true 3 (.inr rfl))]
        simp only [Option.bind_some]
        rw [if_pos hx]
        show (if fle x2.1 x2.2 = true then _ else _) = _
        cases fle x2.1 x2.2 <;> rfl

/-! ### A ray and a triangle -/
def inTri (u v t : Fl) (x : Fl × Fl) : Bool := (fge u f0 && fle u f1 && fge v f0 && fle (fop .add u v) f1) && (fge t x.1 && fle t x.2 && fgt t f0)
def meetAt (t : Tr) (r : Bx) (x : Fl × Fl) : Option V3 :=
  let e := vSub t.2.1 t.1
  let f := vSub t.2.2 t.1
  let p := vCross r.2 f
  let det := vDot e p
  if feq det f0 || !feq det det then none else
  let i := fop .quo f1 det
  let s := vSub r.1 t.1
  let q := vCross s e
  let h := fop .mul (vDot f q) i
  let u := fop .mul (vDot s p) i
  let v := fop .mul (vDot r.2 q) i
  if inTri u v h x then some (h, u, v) else none
def meet (t : Tr) (r : Bx) : Option V3 := (thru (bOf t) r).bind (meetAt t r)

theorem det_eq (d : Fl) : (!(ford d (some 0) == some .lt || ford d (some 0) == some .gt)) = (feq d f0 || !feq d d) := by
  unfold feq
  rw [ford_lt, ford_gt, ford_eqk, ford_eqk, okey_0]
  cases okey d with
  | none => rfl
  | some i =>
    simp only [klt, keq]
    by_cases h : i = 0
    · subst h; rfl
    · rw [show decide (i = 0) = false from decide_eq_false h]
      rcases Int.lt_or_gt_of_ne h with h1 | h1
      · rw [decide_eq_true h1]; simp
      · rw [show decide (0 < i) = true from decide_eq_true h1]; simp

theorem tri_Meet_1_eq (a b : V3) (k : Fl) : tri_Meet_1 (a, b, k) = some (fop .mul (vDot a b) k) := rfl
theorem tri_Edges_eq (t : Tr) : tri_Edges t = some (vSub t.2.1 t.1, vSub t.2.2 t.1) := rfl

theorem tri_Meet_eq (t : Tr) (r : Bx) : tri_Meet (t, r) = some (match meet t r with
    | some h => ((0, h), true)
    | none => ((-1, f0, f0, f0), false)) := by
  unfold tri_Meet tri_Meet.t meet
  simp only [tr_opt, tr_ite, tr_ret, box_Of_eq, box_Through_eq, Option.bind_some, tri_Edges_eq, vec_Cross_eq, vec_Dot_eq, vec_Sub_eq, tri_Meet_1_eq]
  unfold thr
  cases thru (bOf t) r with
  | none => rfl
  | some x =>
    simp only [Option.bind_some, Bool.not_true, Bool.false_eq_true, if_false]
    unfold meetAt
    dsimp only
    show (if (feq (vDot (vSub t.2.1 t.1) (vCross r.2 (vSub t.2.2 t.1))) f0 || !feq (vDot (vSub t.2.1 t.1) (vCross r.2 (vSub t.2.2 t.1))) (vDot (vSub t.2.1 t.1) (vCross r.2 (vSub t.2.2 t.1)))) = true then _ else _) = _
    generalize hd : vDot (vSub t.2.1 t.1) (vCross r.2 (vSub t.2.2 t.1)) = d
    cases (feq d f0 || !feq d d) with
    | true => rfl
    | false =>
      simp only [Bool.false_eq_true, if_false]
      generalize fop .mul (vDot (vSub t.2.2 t.1) (vCross (vSub r.1 t.1) (vSub t.2.1 t.1))) (fop .quo f1 d) = h
      generalize fop .mul (vDot (vSub r.1 t.1) (vCross r.2 (vSub t.2.2 t.1))) (fop .quo f1 d) = u
      generalize fop .mul (vDot r.2 (vCross (vSub r.1 t.1) (vSub t.2.1 t.1))) (fop .quo f1 d) = v
      show (if (!(fge u f0 && fle u f1 && fge v f0 && fle (fop .add u v) f1) || !(fge h x.1 && fle h x.2 && fgt h f0)) = true then _ else _) = _
      rw [← Bool.not_and]
      show (if (!inTri u v h x) = true then _ else _) = _
      cases inTri u v h x <;> rfl

theorem ref10_Meet_eq (t : Tr) (r : Bx) : ref10_Meet (t, r) = some (match meet t r with
    | some h => (h.1, h.2.1, h.2.2, true)
    | none => (f0, f0, f0, false)) := by
  unfold ref10_Meet ref10_Meet.t meet
  simp only [tr_opt, tr_ite, tr_ret, ref04_Of_eq, ref04_Through_eq, Option.bind_some, ref02_Cross_eq, ref02_Dot_eq, ref02_Sub_eq, det_eq]
  unfold thr
  cases thru (bOf t) r with
  | none => rfl
  | some x =>
    simp only [Option.bind_some, Bool.not_true, Bool.false_or]
    unfold meetAt
    dsimp only
    generalize hd : vDot (vSub t.2.1 t.1) (vCross r.2 (vSub t.2.2 t.1)) = d
    cases (feq d f0 || !feq d d) with
    | true => rfl
    | false =>
      simp only [Bool.false_eq_true, if_false]
      generalize fop .mul (vDot (vSub t.2.2 t.1) (vCross (vSub r.1 t.1) (vSub t.2.1 t.1))) (fop .quo f1 d) = h
      generalize fop .mul (vDot (vSub r.1 t.1) (vCross r.2 (vSub t.2.2 t.1))) (fop .quo f1 d) = u
      generalize fop .mul (vDot r.2 (vCross (vSub r.1 t.1) (vSub t.2.1 t.1))) (fop .quo f1 d) = v
      show (if (fge u f0 && fle u f1 && fge v f0 && fle (fop .add u v) f1 && fge h x.1 && fle h x.2 && fgt h f0) = true then _ else _) = _
      have e : (fge u f0 && fle u f1 && fge v f0 && fle (fop .add u v) f1 && fge h x.1 && fle h x.2 && fgt h f0) = inTri u v h x := by
        unfold inTri
        simp only [Bool.and_assoc]
      rw [e]
      cases inTri u v h x <;> rfl
end Go.Proofs.Pen

namespace Go.Proofs.Pen
open Go Go.Proofs
noncomputable def law13_skips.t (x : (List (Int))) : T ((List (Int))) := T.ite (decide ((↑(List.length x) : Int) > (10 : Int))) (T.ite (decide ((0 : Int) ≤ (0 : Int)) && decide ((0 : Int) ≤ (10 : Int)) && decide ((10 : Int) ≤ (↑(List.length x) : Int))) (T.ret (List.take (Int.toNat (10 : Int) - Int.toNat (0 : Int)) (List.drop (Int.toNat (0 : Int)) x))) T.fail) (T.ret x)
noncomputable def law13_skips (x : (List (Int))) : Option ((List (Int))) := (law13_skips.t x).run
noncomputable def law13_skips.q : List AV → T AV := entry [(.sl TI)] (outR [(.sl TI)]) fun x => .opt (law13_skips x) .ret
theorem law13_skips.ok : FnOK Tryz.prog 21 law13_skips.q :=
  entry_call (ps := [(.sl TI)]) (rs := [(.sl TI)]) (F := ({ quiet := Xs, deep := noDeep } : Fns)) (D := D0) (S := tabS []) (t := law13_skips.t) mixed Xok (deep_none _) Tryz.func21 (by kernel_rfl) (sok_fn trivial) (by kernel_rfl) (fun x => by kernel_rfl)
end Go.Proofs.Pen

namespace Go.Proofs.Pen
open Go Go.Proofs
noncomputable def eachAdd.t (x : (Option Nat × Option Nat × Option Nat) × (Option Nat × Option Nat × Option Nat) × Unit) : T ((Option Nat × Option Nat × Option Nat)) := T.ret (fop BinOp.add x.1.1 x.2.1.1, fop BinOp.add x.1.2.1 x.2.1.2.1, fop BinOp.add x.1.2.2 x.2.1.2.2)
noncomputable def eachAdd.q : List AV → T AV := entry [TV, TV, (.clo 163 .unit)] (outR [TV]) eachAdd.t
theorem eachAdd.ok : FnOK Tryz.prog 150 eachAdd.q :=
  entry_in (ps := [TV, TV, (.clo 163 .unit)]) (rs := [TV]) (F := ({ quiet := (ext (ext (ext Xs 163 vec_Add_1.q) 151 vec_Sub_1.q) 192 vec_Mul_1.q), deep := noDeep } : Fns)) (D := D0) (S := tabS []) (t := eachAdd.t) mixed (quiet_ext (quiet_ext (quiet_ext Xok vec_Add_1.ok) vec_Sub_1.ok) vec_Mul_1.ok) (deep_none _) Tryz.func150 (by kernel_rfl) (sok_fn trivial) (by kernel_rfl) (fun x => by kernel_rfl)
end Go.Proofs.Pen

namespace Go.Proofs.Pen
open Go Go.Proofs
noncomputable def vec_Add.t (x : (Option Nat × Option Nat × Option Nat) × (Option Nat × Option Nat × Option Nat)) : T ((Option Nat × Option Nat × Option Nat)) := T.ret (fop BinOp.add x.1.1 x.2.1, fop BinOp.add x.1.2.1 x.2.2.1, fop BinOp.add x.1.2.2 x.2.2.2)
noncomputable def vec_Add (x : (Option Nat × Option Nat × Option Nat) × (Option Nat × Option Nat × Option Nat)) : Option ((Option Nat × Option Nat × Option Nat)) := (vec_Add.t x).run
noncomputable def vec_Add.q : List AV → T AV := entry [TV, TV] (outR [TV]) fun x => .opt (vec_Add x) .ret
theorem vec_Add.ok : FnOK Tryz.prog 109 vec_Add.q :=
  entry_call (ps := [TV, TV]) (rs := [TV]) (F := ({ quiet := (ext Xs 150 eachAdd.q), deep := noDeep } : Fns)) (D := D0) (S := tabS []) (t := vec_Add.t) mixed (quiet_ext Xok eachAdd.ok) (deep_none _) Tryz.func109 (by kernel_rfl) (sok_fn trivial) (by kernel_rfl) (fun x => by kernel_rfl)
end Go.Proofs.Pen

namespace Go.Proofs.Pen
open Go Go.Proofs
noncomputable def vec_Scale.t (x : (Option Nat × Option Nat × Option Nat) × (Option Nat)) : T ((Option Nat × Option Nat × Option Nat)) := T.ret (fop BinOp.mul x.1.1 x.2, fop BinOp.mul x.1.2.1 x.2, fop BinOp.mul x.1.2.2 x.2)
noncomputable def vec_Scale.q : List AV → T AV := entry [TV, .flt] (outR [TV]) vec_Scale.t
theorem vec_Scale.ok : FnOK Tryz.prog 108 vec_Scale.q :=
  entry_in (ps := [TV, .flt]) (rs := [TV]) (F := ({ quiet := (ext (ext Xs 152 vec_Mul.q) 192 vec_Mul_1.q), deep := noDeep } : Fns)) (D := D0) (S := tabS []) (t := vec_Scale.t) mixed (quiet_ext (quiet_ext Xok vec_Mul.ok) vec_Mul_1.ok) (deep_none _) Tryz.func108 (by kernel_rfl) (sok_fn trivial) (by kernel_rfl) (fun x => by kernel_rfl)
end Go.Proofs.Pen

namespace Go.Proofs.Pen
open Go Go.Proofs
noncomputable def box_Mid.t (x : ((Option Nat × Option Nat × Option Nat) × Option Nat × Option Nat × Option Nat)) : T ((Option Nat × Option Nat × Option Nat)) := T.opt (vec_Add x) fun y => T.ret (fop BinOp.mul y.1 (some (4602678819172646912 : Nat)), fop BinOp.mul y.2.1 (some (4602678819172646912 : Nat)), fop BinOp.mul y.2.2 (some (4602678819172646912 : Nat)))
noncomputable def box_Mid (x : ((Option Nat × Option Nat × Option Nat) × Option Nat × Option Nat × Option Nat)) : Option ((Option Nat × Option Nat × Option Nat)) := (box_Mid.t x).run
noncomputable def box_Mid.q : List AV → T AV := entry [TBox] (outR [TV]) fun x => .opt (box_Mid x) .ret
theorem box_Mid.ok : FnOK Tryz.prog 48 box_Mid.q :=
  entry_call (ps := [TBox]) (rs := [TV]) (F := ({ quiet := (ext (ext (ext (ext Xs 109 vec_Add.q) 108 vec_Scale.q) 163 vec_Add_1.q) 192 vec_Mul_1.q), deep := noDeep } : Fns)) (D := D0) (S := tabS []) (t := box_Mid.t) mixed (quiet_ext (quiet_ext (quiet_ext (quiet_ext Xok vec_Add.ok) vec_Scale.ok) vec_Add_1.ok) vec_Mul_1.ok) (deep_none _) Tryz.func48 (by kernel_rfl) (sok_fn trivial) (by kernel_rfl) (fun x => by kernel_rfl)
end Go.Proofs.Pen

namespace Go.Proofs.Pen
open Go Go.Proofs
noncomputable def tri_Better.t (x : (Int × Option Nat × Option Nat × Option Nat) × (Int × Option Nat × Option Nat × Option Nat)) : T (Bool) := T.ite (x.1.1 == x.2.1 && (ford x.1.2.1 x.2.2.1 == some Ordering.eq && (ford x.1.2.2.1 x.2.2.2.1 == some Ordering.eq && ford x.1.2.2.2 x.2.2.2.2 == some Ordering.eq)) || decide (x.1.1 < (0 : Int))) (T.ret false) (T.ite (decide (x.2.1 < (0 : Int))) (T.ret true) (T.ret (ford x.1.2.1 x.2.2.1 == some Ordering.lt || ford x.1.2.1 x.2.2.1 == some Ordering.eq && decide (x.1.1 < x.2.1))))
noncomputable def tri_Better (x : (Int × Option Nat × Option Nat × Option Nat) × (Int × Option Nat × Option Nat × Option Nat)) : Option (Bool) := (tri_Better.t x).run
noncomputable def tri_Better.q : List AV → T AV := entry [THit, THit] (outR [.bool]) fun x => .opt (tri_Better x) .ret
theorem tri_Better.ok : FnOK Tryz.prog 69 tri_Better.q :=
  entry_call (ps := [THit, THit]) (rs := [.bool]) (F := ({ quiet := Xs, deep := noDeep } : Fns)) (D := D0) (S := tabS []) (t := tri_Better.t) mixed Xok (deep_none _) Tryz.func69 (by kernel_rfl) (sok_fn trivial) (by kernel_rfl) (fun x => by kernel_rfl)
end Go.Proofs.Pen

namespace Go.Proofs.Pen
open Go Go.Proofs
noncomputable def hit_none.t (_ : Unit) : T ((Int × Option Nat × Option Nat × Option Nat)) := T.ret ((-1 : Int), some (0 : Nat), some (0 : Nat), some (0 : Nat))
noncomputable def hit_none.q : List AV → T AV := entry [] (outR [THit]) hit_none.t
theorem hit_none.ok : FnOK Tryz.prog 65 hit_none.q :=
  entry_in (ps := []) (rs := [THit]) (F := ({ quiet := Xs, deep := noDeep } : Fns)) (D := D0) (S := tabS []) (t := hit_none.t) mixed Xok (deep_none _) Tryz.func65 (by kernel_rfl) (sok_fn trivial) (by kernel_rfl) (fun x => by kernel_rfl)
end Go.Proofs.Pen

namespace Go.Proofs.Pen
open Go Go.Proofs
def slices_Index.L0 : List (Nat × Lay) := [(0, .val (.sl TI)), (1, .val TI), (4, .val TI), (7, .val TI), (8, .val TI)]
noncomputable def slices_Index.t0 (x : (List (Int)) × Int × Int × Int × Int × Unit) : T (Ex × (List (Int)) × Int × Int × Int × Int × Unit) := T.ite (decide (x.2.2.2.2.1 < x.2.2.2.1)) (T.opt (lget x.1 x.2.2.2.2.1) fun y => T.ite (x.2.1 == y) (T.ret (Ex.ret, x.1, x.2.1, x.2.2.2.2.1, x.2.2.2.1, x.2.2.2.2.1, ())) (T.ret (Ex.normal, x.1, x.2.1, x.2.2.1, x.2.2.2.1, W (x.2.2.2.2.1 + (1 : Int)), ()))) (T.ret (Ex.exit (0 : Nat), x.1, x.2.1, x.2.2.1, x.2.2.2.1, x.2.2.2.2.1, ()))
noncomputable def slices_Index.l0 (x : (List (Int)) × Int × Int × Int × Int × Unit) : Option (Ex × (List (Int)) × Int × Int × Int × Int × Unit) := (iterT slices_Index.t0 rounds x).run
theorem slices_Index.k0 : bodies 0 (lp Tryz.f175 []) = [.loop (loopIn 0 (lp Tryz.f175 []))] ∧ WP Tryz.prog 0 (.block 0 (.loop (loopIn 0 (lp Tryz.f175 [])))) (loopS slices_Index.L0 19 0 [.exit 0, .ret] slices_Index.l0) :=
  loop_tree (L := slices_Index.L0) (F := ({ quiet := Xs, deep := noDeep } : Fns)) (D := D0) (tab := []) (t := slices_Index.t0) mixed Xok (deep_none _) (fun _ => rfl) (by kernel_rfl) (by kernel_rfl) trivial (fun x => by kernel_rfl)
noncomputable def slices_Index.t (x : (List (Int)) × Int) : T (Int) := T.opt (slices_Index.l0 (x.1, x.2, (0 : Int), (↑(List.length x.1) : Int), (0 : Int), ())) fun y => T.ite (exEq y.1 (Ex.exit (0 : Nat))) (T.ret (-1 : Int)) (T.ite (exEq y.1 Ex.ret) (T.ret y.2.2.2.1) T.fail)
noncomputable def slices_Index (x : (List (Int)) × Int) : Option (Int) := (slices_Index.t x).run
noncomputable def slices_Index.q : List AV → T AV := entry [(.sl TI), TI] (outR [TI]) fun x => .opt (slices_Index x) .ret
theorem slices_Index.ok : FnOK Tryz.prog 175 slices_Index.q :=
  entry_call (ps := [(.sl TI), TI]) (rs := [TI]) (F := ({ quiet := Xs, deep := noDeep } : Fns)) (D := D0) (S := tabS [(0, loopS slices_Index.L0 19 0 [.exit 0, .ret] slices_Index.l0)]) (t := slices_Index.t) mixed Xok (deep_none _) Tryz.func175 (by kernel_rfl) (sok_fn ⟨slices_Index.k0, trivial⟩) (by kernel_rfl) (fun x => by kernel_rfl)
end Go.Proofs.Pen

namespace Go.Proofs.Pen
open Go Go.Proofs
noncomputable def slices_Contains.t (x : (List (Int)) × Int) : T (Bool) := T.opt (slices_Index x) fun y => T.ret (decide (y ≥ (0 : Int)))
noncomputable def slices_Contains (x : (List (Int)) × Int) : Option (Bool) := (slices_Contains.t x).run
noncomputable def slices_Contains.q : List AV → T AV := entry [(.sl TI), TI] (outR [.bool]) fun x => .opt (slices_Contains x) .ret
theorem slices_Contains.ok : FnOK Tryz.prog 124 slices_Contains.q :=
  entry_call (ps := [(.sl TI), TI]) (rs := [.bool]) (F := ({ quiet := (ext Xs 175 slices_Index.q), deep := noDeep } : Fns)) (D := D0) (S := tabS []) (t := slices_Contains.t) mixed (quiet_ext Xok slices_Index.ok) (deep_none _) Tryz.func124 (by kernel_rfl) (sok_fn trivial) (by kernel_rfl) (fun x => by kernel_rfl)
end Go.Proofs.Pen

namespace Go.Proofs.Pen
open Go Go.Proofs
noncomputable def hit_asker_1.t (x : Int × (List ((Option Nat × Option Nat × Option Nat) × (Option Nat × Option Nat × Option Nat) × Option Nat × Option Nat × Option Nat)) × (List (Int)) × ((Option Nat × Option Nat × Option Nat) × Option Nat × Option Nat × Option Nat)) : T ((Int × Option Nat × Option Nat × Option Nat)) := T.ite (decide (x.1 < (0 : Int)) || decide (x.1 ≥ (↑(List.length x.2.1) : Int))) (T.ret ((-1 : Int), some (0 : Nat), some (0 : Nat), some (0 : Nat))) (T.opt (slices_Contains (x.2.2.1, x.1)) fun y => T.ite y (T.ret ((-1 : Int), some (0 : Nat), some (0 : Nat), some (0 : Nat))) (T.opt (lget x.2.1 x.1) fun y => T.opt (tri_Meet (y, x.2.2.2)) fun y => T.ite y.2 (T.ret (x.1, y.1.2)) (T.ret y.1)))
noncomputable def hit_asker_1 (x : Int × (List ((Option Nat × Option Nat × Option Nat) × (Option Nat × Option Nat × Option Nat) × Option Nat × Option Nat × Option Nat)) × (List (Int)) × ((Option Nat × Option Nat × Option Nat) × Option Nat × Option Nat × Option Nat)) : Option ((Int × Option Nat × Option Nat × Option Nat)) := (hit_asker_1.t x).run
noncomputable def hit_asker_1.q : List AV → T AV := entry [TI, (.ptr (.sl TTri)), (.ptr (.sl TI)), (.ptr TBox)] (outR [THit]) fun x => .opt (hit_asker_1 x) .ret
theorem hit_asker_1.ok : FnOK Tryz.prog 123 hit_asker_1.q :=
  entry_call (ps := [TI, (.ptr (.sl TTri)), (.ptr (.sl TI)), (.ptr TBox)]) (rs := [THit]) (F := ({ quiet := (ext (ext (ext (ext (ext (ext (ext Xs 124 slices_Contains.q) 65 hit_none.q) 125 tri_Meet.q) 151 vec_Sub_1.q) 179 tri_Meet_1.q) 192 vec_Mul_1.q) 212 box_Through_1.q), deep := noDeep } : Fns)) (D := D0) (S := tabS []) (t := hit_asker_1.t) mixed (quiet_ext (quiet_ext (quiet_ext (quiet_ext (quiet_ext (quiet_ext (quiet_ext Xok slices_Contains.ok) hit_none.ok) tri_Meet.ok) vec_Sub_1.ok) tri_Meet_1.ok) vec_Mul_1.ok) box_Through_1.ok) (deep_none _) Tryz.func123 (by kernel_rfl) (sok_fn trivial) (by kernel_rfl) (fun x => by kernel_rfl)
end Go.Proofs.Pen

namespace Go.Proofs.Pen
open Go Go.Proofs
noncomputable def hit_asker.t (x : (List ((Option Nat × Option Nat × Option Nat) × (Option Nat × Option Nat × Option Nat) × Option Nat × Option Nat × Option Nat)) × ((Option Nat × Option Nat × Option Nat) × Option Nat × Option Nat × Option Nat) × (List (Int))) : T (((List ((Option Nat × Option Nat × Option Nat) × (Option Nat × Option Nat × Option Nat) × Option Nat × Option Nat × Option Nat)) × List (Int) × (Option Nat × Option Nat × Option Nat) × Option Nat × Option Nat × Option Nat)) := T.ret (x.1, x.2.2, x.2.1)
noncomputable def hit_asker.q : List AV → T AV := entry [(.sl TTri), TBox, (.sl TI)] (outR [(.clo 123 (.pair (.ptr (.sl TTri)) (.pair (.ptr (.sl TI)) (.ptr TBox))))]) hit_asker.t
theorem hit_asker.ok : FnOK Tryz.prog 66 hit_asker.q :=
  entry_in (ps := [(.sl TTri), TBox, (.sl TI)]) (rs := [(.clo 123 (.pair (.ptr (.sl TTri)) (.pair (.ptr (.sl TI)) (.ptr TBox))))]) (F := ({ quiet := (ext (ext (ext (ext (ext Xs 123 hit_asker_1.q) 151 vec_Sub_1.q) 179 tri_Meet_1.q) 192 vec_Mul_1.q) 212 box_Through_1.q), deep := noDeep } : Fns)) (D := D0) (S := tabS []) (t := hit_asker.t) mixed (quiet_ext (quiet_ext (quiet_ext (quiet_ext (quiet_ext Xok hit_asker_1.ok) vec_Sub_1.ok) tri_Meet_1.ok) vec_Mul_1.ok) box_Through_1.ok) (deep_none _) Tryz.func66 (by kernel_rfl) (sok_fn trivial) (by kernel_rfl) (fun x => by kernel_rfl)
end Go.Proofs.Pen

namespace Go.Proofs.Pen
open Go Go.Proofs
def hit_Scan.L0 : List (Nat × Lay) := [(6, .box THit), (7, .box THit), (8, .val (.clo 123 (.pair (.ptr (.sl TTri)) (.pair (.ptr (.sl TI)) (.ptr TBox))))), (17, .val TI), (18, .val TI)]
noncomputable def hit_Scan.t0 (x : (Int × Option Nat × Option Nat × Option Nat) × (Int × Option Nat × Option Nat × Option Nat) × ((List ((Option Nat × Option Nat × Option Nat) × (Option Nat × Option Nat × Option Nat) × Option Nat × Option Nat × Option Nat)) × List (Int) × (Option Nat × Option Nat × Option Nat) × Option Nat × Option Nat × Option Nat) × Int × Int × Unit) : T (Ex × (Int × Option Nat × Option Nat × Option Nat) × (Int × Option Nat × Option Nat × Option Nat) × ((List ((Option Nat × Option Nat × Option Nat) × (Option Nat × Option Nat × Option Nat) × Option Nat × Option Nat × Option Nat)) × List (Int) × (Option Nat × Option Nat × Option Nat) × Option Nat × Option Nat × Option Nat) × Int × Int × Unit) := T.ite (decide (x.2.2.2.2.1 < x.2.2.2.1)) (T.opt (hit_asker_1 (x.2.2.2.2.1, x.2.2.1)) fun y => T.opt (tri_Better (y, x.2.1)) fun y_1 => T.ite y_1 (T.ret (Ex.normal, x.1, y, x.2.2.1, x.2.2.2.1, W (x.2.2.2.2.1 + (1 : Int)), ())) (T.ret (Ex.normal, x.1, x.2.1, x.2.2.1, x.2.2.2.1, W (x.2.2.2.2.1 + (1 : Int)), ()))) (T.ret (Ex.exit (0 : Nat), x.1, x.2.1, x.2.2.1, x.2.2.2.1, x.2.2.2.2.1, ()))
noncomputable def hit_Scan.l0 (x : (Int × Option Nat × Option Nat × Option Nat) × (Int × Option Nat × Option Nat × Option Nat) × ((List ((Option Nat × Option Nat × Option Nat) × (Option Nat × Option Nat × Option Nat) × Option Nat × Option Nat × Option Nat)) × List (Int) × (Option Nat × Option Nat × Option Nat) × Option Nat × Option Nat × Option Nat) × Int × Int × Unit) : Option (Ex × (Int × Option Nat × Option Nat × Option Nat) × (Int × Option Nat × Option Nat × Option Nat) × ((List ((Option Nat × Option Nat × Option Nat) × (Option Nat × Option Nat × Option Nat) × Option Nat × Option Nat × Option Nat)) × List (Int) × (Option Nat × Option Nat × Option Nat) × Option Nat × Option Nat × Option Nat) × Int × Int × Unit) := (iterT hit_Scan.t0 rounds x).run
theorem hit_Scan.k0 : bodies 0 (lp Tryz.f30 []) = [.loop (loopIn 0 (lp Tryz.f30 []))] ∧ WP Tryz.prog 0 (.block 0 (.loop (loopIn 0 (lp Tryz.f30 [])))) (loopS hit_Scan.L0 30 0 [.exit 0] hit_Scan.l0) :=
  loop_tree (L := hit_Scan.L0) (F := ({ quiet := (ext (ext (ext (ext (ext (ext (ext (ext Xs 65 hit_none.q) 66 hit_asker.q) 69 tri_Better.q) 123 hit_asker_1.q) 151 vec_Sub_1.q) 179 tri_Meet_1.q) 192 vec_Mul_1.q) 212 box_Through_1.q), deep := noDeep } : Fns)) (D := D0) (tab := []) (t := hit_Scan.t0) mixed (quiet_ext (quiet_ext (quiet_ext (quiet_ext (quiet_ext (quiet_ext (quiet_ext (quiet_ext Xok hit_none.ok) hit_asker.ok) tri_Better.ok) hit_asker_1.ok) vec_Sub_1.ok) tri_Meet_1.ok) vec_Mul_1.ok) box_Through_1.ok) (deep_none _) (fun _ => rfl) (by kernel_rfl) (by kernel_rfl) trivial (fun x => by kernel_rfl)
noncomputable def hit_Scan.t (x : (List ((Option Nat × Option Nat × Option Nat) × (Option Nat × Option Nat × Option Nat) × Option Nat × Option Nat × Option Nat)) × ((Option Nat × Option Nat × Option Nat) × Option Nat × Option Nat × Option Nat) × (List (Int))) : T ((Int × Option Nat × Option Nat × Option Nat)) := T.opt (hit_Scan.l0 (((0 : Int), some (0 : Nat), some (0 : Nat), some (0 : Nat)), ((-1 : Int), some (0 : Nat), some (0 : Nat), some (0 : Nat)), (x.1, x.2.2, x.2.1), (↑(List.length x.1) : Int), (0 : Int), ())) fun y => T.ite (exEq y.1 (Ex.exit (0 : Nat))) (T.ret y.2.2.1) T.fail
noncomputable def hit_Scan (x : (List ((Option Nat × Option Nat × Option Nat) × (Option Nat × Option Nat × Option Nat) × Option Nat × Option Nat × Option Nat)) × ((Option Nat × Option Nat × Option Nat) × Option Nat × Option Nat × Option Nat) × (List (Int))) : Option ((Int × Option Nat × Option Nat × Option Nat)) := (hit_Scan.t x).run
noncomputable def hit_Scan.q : List AV → T AV := entry [(.sl TTri), TBox, (.sl TI)] (outR [THit]) fun x => .opt (hit_Scan x) .ret
theorem hit_Scan.ok : FnOK Tryz.prog 30 hit_Scan.q :=
  entry_call (ps := [(.sl TTri), TBox, (.sl TI)]) (rs := [THit]) (F := ({ quiet := (ext (ext (ext (ext (ext (ext (ext (ext Xs 65 hit_none.q) 66 hit_asker.q) 69 tri_Better.q) 123 hit_asker_1.q) 151 vec_Sub_1.q) 179 tri_Meet_1.q) 192 vec_Mul_1.q) 212 box_Through_1.q), deep := noDeep } : Fns)) (D := D0) (S := tabS [(0, loopS hit_Scan.L0 30 0 [.exit 0] hit_Scan.l0)]) (t := hit_Scan.t) mixed (quiet_ext (quiet_ext (quiet_ext (quiet_ext (quiet_ext (quiet_ext (quiet_ext (quiet_ext Xok hit_none.ok) hit_asker.ok) tri_Better.ok) hit_asker_1.ok) vec_Sub_1.ok) tri_Meet_1.ok) vec_Mul_1.ok) box_Through_1.ok) (deep_none _) Tryz.func30 (by kernel_rfl) (sok_fn ⟨hit_Scan.k0, trivial⟩) (by kernel_rfl) (fun x => by kernel_rfl)
end Go.Proofs.Pen

namespace Go.Proofs.Pen
open Go Go.Proofs
set_option maxRecDepth 100000
noncomputable def law13_awake.t (_ : Unit) : T (Bool) := T.ret true
noncomputable def law13_awake.q : List AV → T AV := entry [] (outR [.bool]) fun _ => .ret (true : dens [.bool])
theorem law13_awake.ok : FnOK Tryz.prog 24 law13_awake.q := peT_entry mixed (quiet_ext (quiet_ext (quiet_ext (quiet_ext (quiet_ext (quiet_ext (quiet_ext (quiet_ext Xok box_Of.ok) box_Mid.ok) box_Through.ok) box_Join.ok) tri_Meet.ok) tri_Better.ok) hit_Scan.ok) hit_asker_1.ok) [47, 48, 176, 162, 125, 69, 30, 123] tbOk 300 40 Tryz.func24 (by kernel_rfl) (by kernel_rfl)
end Go.Proofs.Pen

namespace Go.Proofs.Pen
open Go Go.Proofs
def ref13_First.L2 : List (Nat × Lay) := [(0, .val (.sl TTri)), (2, .val (.sl TI)), (4, .box TBox), (6, .box THit), (7, .box THit), (8, .val TI), (9, .val .flt), (10, .val .flt), (11, .val .flt), (12, .val .bool), (13, .val TI)]
noncomputable def ref13_First.t2 (x : (List ((Option Nat × Option Nat × Option Nat) × (Option Nat × Option Nat × Option Nat) × Option Nat × Option Nat × Option Nat)) × (List (Int)) × ((Option Nat × Option Nat × Option Nat) × Option Nat × Option Nat × Option Nat) × (Int × Option Nat × Option Nat × Option Nat) × (Int × Option Nat × Option Nat × Option Nat) × Int × (Option Nat) × (Option Nat) × (Option Nat) × Bool × Int × Unit) : T (Ex × (List ((Option Nat × Option Nat × Option Nat) × (Option Nat × Option Nat × Option Nat) × Option Nat × Option Nat × Option Nat)) × (List (Int)) × ((Option Nat × Option Nat × Option Nat) × Option Nat × Option Nat × Option Nat) × (Int × Option Nat × Option Nat × Option Nat) × (Int × Option Nat × Option Nat × Option Nat) × Int × (Option Nat) × (Option Nat) × (Option Nat) × Bool × Int × Unit) := T.ite (decide (x.2.2.2.2.2.2.2.2.2.2.1 < (↑(List.length x.2.1) : Int))) (T.ite x.2.2.2.2.2.2.2.2.2.1 (T.opt (lget x.2.1 x.2.2.2.2.2.2.2.2.2.2.1) fun y => T.ret (Ex.normal, x.1, x.2.1, x.2.2.1, x.2.2.2.1, x.2.2.2.2.1, x.2.2.2.2.2.1, x.2.2.2.2.2.2.1, x.2.2.2.2.2.2.2.1, x.2.2.2.2.2.2.2.2.1, y != x.2.2.2.2.2.1, W (x.2.2.2.2.2.2.2.2.2.2.1 + (1 : Int)), ())) (T.ret (Ex.normal, x.1, x.2.1, x.2.2.1, x.2.2.2.1, x.2.2.2.2.1, x.2.2.2.2.2.1, x.2.2.2.2.2.2.1, x.2.2.2.2.2.2.2.1, x.2.2.2.2.2.2.2.2.1, false, W (x.2.2.2.2.2.2.2.2.2.2.1 + (1 : Int)), ()))) (T.ret (Ex.exit (2 : Nat), x.1, x.2.1, x.2.2.1, x.2.2.2.1, x.2.2.2.2.1, x.2.2.2.2.2.1, x.2.2.2.2.2.2.1, x.2.2.2.2.2.2.2.1, x.2.2.2.2.2.2.2.2.1, x.2.2.2.2.2.2.2.2.2.1, x.2.2.2.2.2.2.2.2.2.2.1, ()))
noncomputable def ref13_First.l2 (x : (List ((Option Nat × Option Nat × Option Nat) × (Option Nat × Option Nat × Option Nat) × Option Nat × Option Nat × Option Nat)) × (List (Int)) × ((Option Nat × Option Nat × Option Nat) × Option Nat × Option Nat × Option Nat) × (Int × Option Nat × Option Nat × Option Nat) × (Int × Option Nat × Option Nat × Option Nat) × Int × (Option Nat) × (Option Nat) × (Option Nat) × Bool × Int × Unit) : Option (Ex × (List ((Option Nat × Option Nat × Option Nat) × (Option Nat × Option Nat × Option Nat) × Option Nat × Option Nat × Option Nat)) × (List (Int)) × ((Option Nat × Option Nat × Option Nat) × Option Nat × Option Nat × Option Nat) × (Int × Option Nat × Option Nat × Option Nat) × (Int × Option Nat × Option Nat × Option Nat) × Int × (Option Nat) × (Option Nat) × (Option Nat) × Bool × Int × Unit) := (iterT ref13_First.t2 rounds x).run
theorem ref13_First.k2 : bodies 2 (lp Tryz.f22 [0]) = [.loop (loopIn 2 (lp Tryz.f22 [0]))] ∧ WP Tryz.prog 0 (.block 2 (.loop (loopIn 2 (lp Tryz.f22 [0])))) (loopS ref13_First.L2 66 2 [.exit 2] ref13_First.l2) :=
  loop_tree (L := ref13_First.L2) (F := ({ quiet := (ext Xs 64 ref10_Meet.q), deep := noDeep } : Fns)) (D := D0) (tab := []) (t := ref13_First.t2) mixed (quiet_ext Xok ref10_Meet.ok) (deep_none _) (fun _ => rfl) (by kernel_rfl) (by kernel_rfl) trivial (fun x => by kernel_rfl)
def ref13_First.L0 : List (Nat × Lay) := [(0, .val (.sl TTri)), (2, .val (.sl TI)), (4, .box TBox), (6, .box THit), (7, .box THit), (8, .val TI)]
noncomputable def ref13_First.t0 (x : (List ((Option Nat × Option Nat × Option Nat) × (Option Nat × Option Nat × Option Nat) × Option Nat × Option Nat × Option Nat)) × (List (Int)) × ((Option Nat × Option Nat × Option Nat) × Option Nat × Option Nat × Option Nat) × (Int × Option Nat × Option Nat × Option Nat) × (Int × Option Nat × Option Nat × Option Nat) × Int × Unit) : T (Ex × (List ((Option Nat × Option Nat × Option Nat) × (Option Nat × Option Nat × Option Nat) × Option Nat × Option Nat × Option Nat)) × (List (Int)) × ((Option Nat × Option Nat × Option Nat) × Option Nat × Option Nat × Option Nat) × (Int × Option Nat × Option Nat × Option Nat) × (Int × Option Nat × Option Nat × Option Nat) × Int × Unit) := T.ite (decide (x.2.2.2.2.2.1 ≥ (0 : Int))) (T.opt (lget x.1 x.2.2.2.2.2.1) fun y => T.opt (ref10_Meet (y, x.2.2.1)) fun y => T.opt (ref13_First.l2 (x.1, x.2.1, x.2.2.1, x.2.2.2.1, x.2.2.2.2.1, x.2.2.2.2.2.1, y.1, y.2.1, y.2.2.1, y.2.2.2, (0 : Int), ())) fun y => T.ite (exEq y.1 (Ex.exit (2 : Nat))) (T.ite (y.2.2.2.2.2.2.2.2.2.2.1 && (decide (y.2.2.2.2.2.1.1 < (0 : Int)) || (ford y.2.2.2.2.2.2.2.1 y.2.2.2.2.2.1.2.1 == some Ordering.lt || ford y.2.2.2.2.2.2.2.1 y.2.2.2.2.2.1.2.1 == some Ordering.eq))) (T.ret (Ex.normal, y.2.1, y.2.2.1, y.2.2.2.1, y.2.2.2.2.1, (y.2.2.2.2.2.2.1, y.2.2.2.2.2.2.2.1, y.2.2.2.2.2.2.2.2.1, y.2.2.2.2.2.2.2.2.2.1), W (y.2.2.2.2.2.2.1 - (1 : Int)), ())) (T.ret (Ex.normal, y.2.1, y.2.2.1, y.2.2.2.1, y.2.2.2.2.1, y.2.2.2.2.2.1, W (y.2.2.2.2.2.2.1 - (1 : Int)), ()))) T.fail) (T.ret (Ex.exit (0 : Nat), x.1, x.2.1, x.2.2.1, x.2.2.2.1, x.2.2.2.2.1, x.2.2.2.2.2.1, ()))
noncomputable def ref13_First.l0 (x : (List ((Option Nat × Option Nat × Option Nat) × (Option Nat × Option Nat × Option Nat) × Option Nat × Option Nat × Option Nat)) × (List (Int)) × ((Option Nat × Option Nat × Option Nat) × Option Nat × Option Nat × Option Nat) × (Int × Option Nat × Option Nat × Option Nat) × (Int × Option Nat × Option Nat × Option Nat) × Int × Unit) : Option (Ex × (List ((Option Nat × Option Nat × Option Nat) × (Option Nat × Option Nat × Option Nat) × Option Nat × Option Nat × Option Nat)) × (List (Int)) × ((Option Nat × Option Nat × Option Nat) × Option Nat × Option Nat × Option Nat) × (Int × Option Nat × Option Nat × Option Nat) × (Int × Option Nat × Option Nat × Option Nat) × Int × Unit) := (iterT ref13_First.t0 rounds x).run
theorem ref13_First.k0 : bodies 0 (lp Tryz.f22 []) = [.loop (loopIn 0 (lp Tryz.f22 []))] ∧ WP Tryz.prog 0 (.block 0 (.loop (loopIn 0 (lp Tryz.f22 [])))) (loopS ref13_First.L0 66 0 [.exit 0] ref13_First.l0) :=
  loop_tree (L := ref13_First.L0) (F := ({ quiet := (ext Xs 64 ref10_Meet.q), deep := noDeep } : Fns)) (D := D0) (tab := [(2, loopS ref13_First.L2 66 2 [.exit 2] ref13_First.l2)]) (t := ref13_First.t0) mixed (quiet_ext Xok ref10_Meet.ok) (deep_none _) (fun _ => rfl) (by kernel_rfl) (by kernel_rfl) ⟨ref13_First.k2, trivial⟩ (fun x => by kernel_rfl)
noncomputable def ref13_First.t (x : (List ((Option Nat × Option Nat × Option Nat) × (Option Nat × Option Nat × Option Nat) × Option Nat × Option Nat × Option Nat)) × ((Option Nat × Option Nat × Option Nat) × Option Nat × Option Nat × Option Nat) × (List (Int))) : T ((Int × Option Nat × Option Nat × Option Nat)) := T.opt (ref13_First.l0 (x.1, x.2.2, x.2.1, ((0 : Int), some (0 : Nat), some (0 : Nat), some (0 : Nat)), ((-1 : Int), some (0 : Nat), some (0 : Nat), some (0 : Nat)), W ((↑(List.length x.1) : Int) - (1 : Int)), ())) fun y => T.ite (exEq y.1 (Ex.exit (0 : Nat))) (T.ret y.2.2.2.2.2.1) T.fail
noncomputable def ref13_First (x : (List ((Option Nat × Option Nat × Option Nat) × (Option Nat × Option Nat × Option Nat) × Option Nat × Option Nat × Option Nat)) × ((Option Nat × Option Nat × Option Nat) × Option Nat × Option Nat × Option Nat) × (List (Int))) : Option ((Int × Option Nat × Option Nat × Option Nat)) := (ref13_First.t x).run
noncomputable def ref13_First.q : List AV → T AV := entry [(.sl TTri), TBox, (.sl TI)] (outR [THit]) fun x => .opt (ref13_First x) .ret
theorem ref13_First.ok : FnOK Tryz.prog 22 ref13_First.q :=
  entry_call (ps := [(.sl TTri), TBox, (.sl TI)]) (rs := [THit]) (F := ({ quiet := (ext Xs 64 ref10_Meet.q), deep := noDeep } : Fns)) (D := D0) (S := tabS [(0, loopS ref13_First.L0 66 0 [.exit 0] ref13_First.l0)]) (t := ref13_First.t) mixed (quiet_ext Xok ref10_Meet.ok) (deep_none _) Tryz.func22 (by kernel_rfl) (sok_fn ⟨ref13_First.k0, trivial⟩) (by kernel_rfl) (fun x => by kernel_rfl)
end Go.Proofs.Pen

namespace Go.Proofs.Pen
open Go Go.Proofs
def hit_ScanAny.L0 : List (Nat × Lay) := [(2, .val .flt), (8, .val .bool), (9, .val (.clo 123 (.pair (.ptr (.sl TTri)) (.pair (.ptr (.sl TI)) (.ptr TBox))))), (17, .val TI), (18, .val TI)]
noncomputable def hit_ScanAny.t0 (x : (Option Nat) × Bool × ((List ((Option Nat × Option Nat × Option Nat) × (Option Nat × Option Nat × Option Nat) × Option Nat × Option Nat × Option Nat)) × List (Int) × (Option Nat × Option Nat × Option Nat) × Option Nat × Option Nat × Option Nat) × Int × Int × Unit) : T (Ex × (Option Nat) × Bool × ((List ((Option Nat × Option Nat × Option Nat) × (Option Nat × Option Nat × Option Nat) × Option Nat × Option Nat × Option Nat)) × List (Int) × (Option Nat × Option Nat × Option Nat) × Option Nat × Option Nat × Option Nat) × Int × Int × Unit) := T.ite (decide (x.2.2.2.2.1 < x.2.2.2.1)) (T.opt (hit_asker_1 (x.2.2.2.2.1, x.2.2.1)) fun y => T.ite (decide (y.1 ≥ (0 : Int)) && ford y.2.1 x.1 == some Ordering.lt) (T.ret (Ex.ret, x.1, true, x.2.2.1, x.2.2.2.1, x.2.2.2.2.1, ())) (T.ret (Ex.normal, x.1, x.2.1, x.2.2.1, x.2.2.2.1, W (x.2.2.2.2.1 + (1 : Int)), ()))) (T.ret (Ex.exit (0 : Nat), x.1, x.2.1, x.2.2.1, x.2.2.2.1, x.2.2.2.2.1, ()))
noncomputable def hit_ScanAny.l0 (x : (Option Nat) × Bool × ((List ((Option Nat × Option Nat × Option Nat) × (Option Nat × Option Nat × Option Nat) × Option Nat × Option Nat × Option Nat)) × List (Int) × (Option Nat × Option Nat × Option Nat) × Option Nat × Option Nat × Option Nat) × Int × Int × Unit) : Option (Ex × (Option Nat) × Bool × ((List ((Option Nat × Option Nat × Option Nat) × (Option Nat × Option Nat × Option Nat) × Option Nat × Option Nat × Option Nat)) × List (Int) × (Option Nat × Option Nat × Option Nat) × Option Nat × Option Nat × Option Nat) × Int × Int × Unit) := (iterT hit_ScanAny.t0 rounds x).run
theorem hit_ScanAny.k0 : bodies 0 (lp Tryz.f31 []) = [.loop (loopIn 0 (lp Tryz.f31 []))] ∧ WP Tryz.prog 0 (.block 0 (.loop (loopIn 0 (lp Tryz.f31 [])))) (loopS hit_ScanAny.L0 34 0 [.exit 0, .ret] hit_ScanAny.l0) :=
  loop_tree (L := hit_ScanAny.L0) (F := ({ quiet := (ext (ext (ext (ext (ext (ext Xs 66 hit_asker.q) 123 hit_asker_1.q) 151 vec_Sub_1.q) 179 tri_Meet_1.q) 192 vec_Mul_1.q) 212 box_Through_1.q), deep := noDeep } : Fns)) (D := D0) (tab := []) (t := hit_ScanAny.t0) mixed (quiet_ext (quiet_ext (quiet_ext (quiet_ext (quiet_ext (quiet_ext Xok hit_asker.ok) hit_asker_1.ok) vec_Sub_1.ok) tri_Meet_1.ok) vec_Mul_1.ok) box_Through_1.ok) (deep_none _) (fun _ => rfl) (by kernel_rfl) (by kernel_rfl) trivial (fun x => by kernel_rfl)
noncomputable def hit_ScanAny.t (x : (List ((Option Nat × Option Nat × Option Nat) × (Option Nat × Option Nat × Option Nat) × Option Nat × Option Nat × Option Nat)) × ((Option Nat × Option Nat × Option Nat) × Option Nat × Option Nat × Option Nat) × (Option Nat) × (List (Int))) : T (Bool) := T.opt (hit_ScanAny.l0 (x.2.2.1, false, (x.1, x.2.2.2, x.2.1), (↑(List.length x.1) : Int), (0 : Int), ())) fun y => T.ite (exEq y.1 (Ex.exit (0 : Nat))) (T.ret false) (T.ite (exEq y.1 Ex.ret) (T.ret y.2.2.1) T.fail)
noncomputable def hit_ScanAny (x : (List ((Option Nat × Option Nat × Option Nat) × (Option Nat × Option Nat × Option Nat) × Option Nat × Option Nat × Option Nat)) × ((Option Nat × Option Nat × Option Nat) × Option Nat × Option Nat × Option Nat) × (Option Nat) × (List (Int))) : Option (Bool) := (hit_ScanAny.t x).run
noncomputable def hit_ScanAny.q : List AV → T AV := entry [(.sl TTri), TBox, .flt, (.sl TI)] (outR [.bool]) fun x => .opt (hit_ScanAny x) .ret
theorem hit_ScanAny.ok : FnOK Tryz.prog 31 hit_ScanAny.q :=
  entry_call (ps := [(.sl TTri), TBox, .flt, (.sl TI)]) (rs := [.bool]) (F := ({ quiet := (ext (ext (ext (ext (ext (ext Xs 66 hit_asker.q) 123 hit_asker_1.q) 151 vec_Sub_1.q) 179 tri_Meet_1.q) 192 vec_Mul_1.q) 212 box_Through_1.q), deep := noDeep } : Fns)) (D := D0) (S := tabS [(0, loopS hit_ScanAny.L0 34 0 [.exit 0, .ret] hit_ScanAny.l0)]) (t := hit_ScanAny.t) mixed (quiet_ext (quiet_ext (quiet_ext (quiet_ext (quiet_ext (quiet_ext Xok hit_asker.ok) hit_asker_1.ok) vec_Sub_1.ok) tri_Meet_1.ok) vec_Mul_1.ok) box_Through_1.ok) (deep_none _) Tryz.func31 (by kernel_rfl) (sok_fn ⟨hit_ScanAny.k0, trivial⟩) (by kernel_rfl) (fun x => by kernel_rfl)
end Go.Proofs.Pen

namespace Go.Proofs.Pen
open Go Go.Proofs
def ref13_Any.L2 : List (Nat × Lay) := [(0, .val (.sl TTri)), (2, .val .flt), (3, .val (.sl TI)), (5, .box TBox), (8, .val .bool), (9, .val TI), (10, .val .flt), (13, .val .bool), (14, .val TI)]
noncomputable def ref13_Any.t2 (x : (List ((Option Nat × Option Nat × Option Nat) × (Option Nat × Option Nat × Option Nat) × Option Nat × Option Nat × Option Nat)) × (Option Nat) × (List (Int)) × ((Option Nat × Option Nat × Option Nat) × Option Nat × Option Nat × Option Nat) × Bool × Int × (Option Nat) × Bool × Int × Unit) : T (Ex × (List ((Option Nat × Option Nat × Option Nat) × (Option Nat × Option Nat × Option Nat) × Option Nat × Option Nat × Option Nat)) × (Option Nat) × (List (Int)) × ((Option Nat × Option Nat × Option Nat) × Option Nat × Option Nat × Option Nat) × Bool × Int × (Option Nat) × Bool × Int × Unit) := T.ite (decide (x.2.2.2.2.2.2.2.2.1 < (↑(List.length x.2.2.1) : Int))) (T.ite x.2.2.2.2.2.2.2.1 (T.opt (lget x.2.2.1 x.2.2.2.2.2.2.2.2.1) fun y => T.ret (Ex.normal, x.1, x.2.1, x.2.2.1, x.2.2.2.1, x.2.2.2.2.1, x.2.2.2.2.2.1, x.2.2.2.2.2.2.1, y != x.2.2.2.2.2.1, W (x.2.2.2.2.2.2.2.2.1 + (1 : Int)), ())) (T.ret (Ex.normal, x.1, x.2.1, x.2.2.1, x.2.2.2.1, x.2.2.2.2.1, x.2.2.2.2.2.1, x.2.2.2.2.2.2.1, false, W (x.2.2.2.2.2.2.2.2.1 + (1 : Int)), ()))) (T.ret (Ex.exit (2 : Nat), x.1, x.2.1, x.2.2.1, x.2.2.2.1, x.2.2.2.2.1, x.2.2.2.2.2.1, x.2.2.2.2.2.2.1, x.2.2.2.2.2.2.2.1, x.2.2.2.2.2.2.2.2.1, ()))
noncomputable def ref13_Any.l2 (x : (List ((Option Nat × Option Nat × Option Nat) × (Option Nat × Option Nat × Option Nat) × Option Nat × Option Nat × Option Nat)) × (Option Nat) × (List (Int)) × ((Option Nat × Option Nat × Option Nat) × Option Nat × Option Nat × Option Nat) × Bool × Int × (Option Nat) × Bool × Int × Unit) : Option (Ex × (List ((Option Nat × Option Nat × Option Nat) × (Option Nat × Option Nat × Option Nat) × Option Nat × Option Nat × Option Nat)) × (Option Nat) × (List (Int)) × ((Option Nat × Option Nat × Option Nat) × Option Nat × Option Nat × Option Nat) × Bool × Int × (Option Nat) × Bool × Int × Unit) := (iterT ref13_Any.t2 rounds x).run
theorem ref13_Any.k2 : bodies 2 (lp Tryz.f23 [0]) = [.loop (loopIn 2 (lp Tryz.f23 [0]))] ∧ WP Tryz.prog 0 (.block 2 (.loop (loopIn 2 (lp Tryz.f23 [0])))) (loopS ref13_Any.L2 53 2 [.exit 2] ref13_Any.l2) :=
  loop_tree (L := ref13_Any.L2) (F := ({ quiet := (ext Xs 64 ref10_Meet.q), deep := noDeep } : Fns)) (D := D0) (tab := []) (t := ref13_Any.t2) mixed (quiet_ext Xok ref10_Meet.ok) (deep_none _) (fun _ => rfl) (by kernel_rfl) (by kernel_rfl) trivial (fun x => by kernel_rfl)
def ref13_Any.L0 : List (Nat × Lay) := [(0, .val (.sl TTri)), (2, .val .flt), (3, .val (.sl TI)), (5, .box TBox), (8, .val .bool), (9, .val TI)]
noncomputable def ref13_Any.t0 (x : (List ((Option Nat × Option Nat × Option Nat) × (Option Nat × Option Nat × Option Nat) × Option Nat × Option Nat × Option Nat)) × (Option Nat) × (List (Int)) × ((Option Nat × Option Nat × Option Nat) × Option Nat × Option Nat × Option Nat) × Bool × Int × Unit) : T (Ex × (List ((Option Nat × Option Nat × Option Nat) × (Option Nat × Option Nat × Option Nat) × Option Nat × Option Nat × Option Nat)) × (Option Nat) × (List (Int)) × ((Option Nat × Option Nat × Option Nat) × Option Nat × Option Nat × Option Nat) × Bool × Int × Unit) := T.ite (decide (x.2.2.2.2.2.1 < (↑(List.length x.1) : Int))) (T.opt (lget x.1 x.2.2.2.2.2.1) fun y => T.opt (ref10_Meet (y, x.2.2.2.1)) fun y => T.opt (ref13_Any.l2 (x.1, x.2.1, x.2.2.1, x.2.2.2.1, x.2.2.2.2.1, x.2.2.2.2.2.1, y.1, y.2.2.2, (0 : Int), ())) fun y => T.ite (exEq y.1 (Ex.exit (2 : Nat))) (T.ite (y.2.2.2.2.2.2.2.2.1 && ford y.2.2.2.2.2.2.2.1 y.2.2.1 == some Ordering.lt) (T.ret (Ex.ret, y.2.1, y.2.2.1, y.2.2.2.1, y.2.2.2.2.1, true, y.2.2.2.2.2.2.1, ())) (T.ret (Ex.normal, y.2.1, y.2.2.1, y.2.2.2.1, y.2.2.2.2.1, y.2.2.2.2.2.1, W (y.2.2.2.2.2.2.1 + (1 : Int)), ()))) T.fail) (T.ret (Ex.exit (0 : Nat), x.1, x.2.1, x.2.2.1, x.2.2.2.1, x.2.2.2.2.1, x.2.2.2.2.2.1, ()))
noncomputable def ref13_Any.l0 (x : (List ((Option Nat × Option Nat × Option Nat) × (Option Nat × Option Nat × Option Nat) × Option Nat × Option Nat × Option Nat)) × (Option Nat) × (List (Int)) × ((Option Nat × Option Nat × Option Nat) × Option Nat × Option Nat × Option Nat) × Bool × Int × Unit) : Option (Ex × (List ((Option Nat × Option Nat × Option Nat) × (Option Nat × Option Nat × Option Nat) × Option Nat × Option Nat × Option Nat)) × (Option Nat) × (List (Int)) × ((Option Nat × Option Nat × Option Nat) × Option Nat × Option Nat × Option Nat) × Bool × Int × Unit) := (iterT ref13_Any.t0 rounds x).run
theorem ref13_Any.k0 : bodies 0 (lp Tryz.f23 []) = [.loop (loopIn 0 (lp Tryz.f23 []))] ∧ WP Tryz.prog 0 (.block 0 (.loop (loopIn 0 (lp Tryz.f23 [])))) (loopS ref13_Any.L0 53 0 [.exit 0, .ret] ref13_Any.l0) :=
  loop_tree (L := ref13_Any.L0) (F := ({ quiet := (ext Xs 64 ref10_Meet.q), deep := noDeep } : Fns)) (D := D0) (tab := [(2, loopS ref13_Any.L2 53 2 [.exit 2] ref13_Any.l2)]) (t := ref13_Any.t0) mixed (quiet_ext Xok ref10_Meet.ok) (deep_none _) (fun _ => rfl) (by kernel_rfl) (by kernel_rfl) ⟨ref13_Any.k2, trivial⟩ (fun x => by kernel_rfl)
noncomputable def ref13_Any.t (x : (List ((Option Nat × Option Nat × Option Nat) × (Option Nat × Option Nat × Option Nat) × Option Nat × Option Nat × Option Nat)) × ((Option Nat × Option Nat × Option Nat) × Option Nat × Option Nat × Option Nat) × (Option Nat) × (List (Int))) : T (Bool) := T.opt (ref13_Any.l0 (x.1, x.2.2.1, x.2.2.2, x.2.1, false, (0 : Int), ())) fun y => T.ite (exEq y.1 (Ex.exit (0 : Nat))) (T.ret false) (T.ite (exEq y.1 Ex.ret) (T.ret y.2.2.2.2.2.1) T.fail)
noncomputable def ref13_Any (x : (List ((Option Nat × Option Nat × Option Nat) × (Option Nat × Option Nat × Option Nat) × Option Nat × Option Nat × Option Nat)) × ((Option Nat × Option Nat × Option Nat) × Option Nat × Option Nat × Option Nat) × (Option Nat) × (List (Int))) : Option (Bool) := (ref13_Any.t x).run
noncomputable def ref13_Any.q : List AV → T AV := entry [(.sl TTri), TBox, .flt, (.sl TI)] (outR [.bool]) fun x => .opt (ref13_Any x) .ret
theorem ref13_Any.ok : FnOK Tryz.prog 23 ref13_Any.q :=
  entry_call (ps := [(.sl TTri), TBox, .flt, (.sl TI)]) (rs := [.bool]) (F := ({ quiet := (ext Xs 64 ref10_Meet.q), deep := noDeep } : Fns)) (D := D0) (S := tabS [(0, loopS ref13_Any.L0 53 0 [.exit 0, .ret] ref13_Any.l0)]) (t := ref13_Any.t) mixed (quiet_ext Xok ref10_Meet.ok) (deep_none _) Tryz.func23 (by kernel_rfl) (sok_fn ⟨ref13_Any.k0, trivial⟩) (by kernel_rfl) (fun x => by kernel_rfl)
end Go.Proofs.Pen

namespace Go.Proofs.Pen
open Go Go.Proofs
noncomputable def law13_HitScans.t (x : ((List ((Option Nat × Option Nat × Option Nat) × (Option Nat × Option Nat × Option Nat) × Option Nat × Option Nat × Option Nat)) × ((Option Nat × Option Nat × Option Nat) × Option Nat × Option Nat × Option Nat) × Option Nat × List (Int))) : T (Bool) := T.opt (law13_skips x.2.2.2) fun y => T.ite (decide ((↑(List.length x.1) : Int) > (100 : Int))) (T.ite (decide ((0 : Int) ≤ (0 : Int)) && decide ((0 : Int) ≤ (100 : Int)) && decide ((100 : Int) ≤ (↑(List.length x.1) : Int))) (T.ite true (T.opt (hit_Scan (List.take (Int.toNat (100 : Int) - Int.toNat (0 : Int)) (List.drop (Int.toNat (0 : Int)) x.1), x.2.1, y)) fun y_1 => T.opt (ref13_First (List.take (Int.toNat (100 : Int) - Int.toNat (0 : Int)) (List.drop (Int.toNat (0 : Int)) x.1), x.2.1, y)) fun y_2 => T.opt (ref10_Is (y_1, y_2)) fun y_3 => T.ite y_3 (T.opt (hit_ScanAny (List.take (Int.toNat (100 : Int) - Int.toNat (0 : Int)) (List.drop (Int.toNat (0 : Int)) x.1), x.2.1, x.2.2.1, y)) fun y_4 => T.opt (ref13_Any (List.take (Int.toNat (100 : Int) - Int.toNat (0 : Int)) (List.drop (Int.toNat (0 : Int)) x.1), x.2.1, x.2.2.1, y)) fun y => T.ret (y_4 == y)) (T.ret false)) (T.ret false)) T.fail) (T.ite true (T.opt (hit_Scan (x.1, x.2.1, y)) fun y_1 => T.opt (ref13_First (x.1, x.2.1, y)) fun y_2 => T.opt (ref10_Is (y_1, y_2)) fun y_3 => T.ite y_3 (T.opt (hit_ScanAny (x.1, x.2.1, x.2.2.1, y)) fun y_4 => T.opt (ref13_Any (x.1, x.2.1, x.2.2.1, y)) fun y => T.ret (y_4 == y)) (T.ret false)) (T.ret false))
noncomputable def law13_HitScans (x : ((List ((Option Nat × Option Nat × Option Nat) × (Option Nat × Option Nat × Option Nat) × Option Nat × Option Nat × Option Nat)) × ((Option Nat × Option Nat × Option Nat) × Option Nat × Option Nat × Option Nat) × Option Nat × List (Int))) : Option (Bool) := (law13_HitScans.t x).run
noncomputable def law13_HitScans.q : List AV → T AV := entry [(.st (.pair (.sl TTri) (.pair TBox (.pair .flt (.sl TI)))))] (outR [.bool]) fun x => .opt (law13_HitScans x) .ret
theorem law13_HitScans.ok : FnOK Tryz.prog 6 law13_HitScans.q :=
  entry_call (ps := [(.st (.pair (.sl TTri) (.pair TBox (.pair .flt (.sl TI)))))]) (rs := [.bool]) (F := ({ quiet := (ext (ext (ext (ext (ext (ext (ext (ext (ext (ext (ext (ext (ext Xs 21 law13_skips.q) 24 law13_awake.q) 30 hit_Scan.q) 22 ref13_First.q) 29 ref10_Is.q) 31 hit_ScanAny.q) 23 ref13_Any.q) 123 hit_asker_1.q) 151 vec_Sub_1.q) 163 vec_Add_1.q) 179 tri_Meet_1.q) 192 vec_Mul_1.q) 212 box_Through_1.q), deep := noDeep } : Fns)) (D := D0) (S := tabS []) (t := law13_HitScans.t) mixed (quiet_ext (quiet_ext (quiet_ext (quiet_ext (quiet_ext (quiet_ext (quiet_ext (quiet_ext (quiet_ext (quiet_ext (quiet_ext (quiet_ext (quiet_ext Xok law13_skips.ok) law13_awake.ok) hit_Scan.ok) ref13_First.ok) ref10_Is.ok) hit_ScanAny.ok) ref13_Any.ok) hit_asker_1.ok) vec_Sub_1.ok) vec_Add_1.ok) tri_Meet_1.ok) vec_Mul_1.ok) box_Through_1.ok) (deep_none _) Tryz.func6 (by kernel_rfl) (sok_fn trivial) (by kernel_rfl) (fun x => by kernel_rfl)
end Go.Proofs.Pen

namespace Go.Proofs.Pen
open Go Go.Proofs

/-! ### Asking one triangle -/
def hid (skip : List Int) (i : Nat) : Bool := skip.any fun a => a == (i : Int)
/-- What triangle i tells of a ray. -/
def ask (l : List Tr) (skip : List Int) (r : Bx) (i : Nat) : Option V3 := match l[i]? with
  | some t => if hid skip i then none else meet t r
  | none => none
def toHt : Option (Nat × V3) → Ht
  | some x => ((x.1 : Int), x.2)
  | none => (-1, f0, f0, f0)

theorem Contains_eq (skip : List Int) (i : Nat) (h : skip.length < 1000) : slices_Contains (skip, (i : Int)) = some (hid skip i) := by
  have key : slices_Index (skip, (i : Int)) = some (-1) ∧ hid skip i = false ∨ ∃ j : Nat, slices_Index (skip, (i : Int)) = some (j : Int) ∧ hid skip i = true := by
    unfold slices_Index slices_Index.t slices_Index.l0
    rcases iter_scan (t := slices_Index.t0) skip (fun a => !((i : Int) == a)) (fun k => (skip, (i : Int), 0, (skip.length : Int), (k : Int), ())) (fun k => (skip, (i : Int), (k : Int), (skip.length : Int), (k : Int), ()))
      (skip, (i : Int), 0, (skip.length : Int), (skip.length : Int), ()) .ret (.exit 0) (fun k hk => by
        unfold slices_Index.t0
        dsimp only
        rw [tr_ite, if_pos (decide_eq_true (by omega)), tr_opt, lget_nat _ hk, Option.bind_some, tr_ite, tr_ret, tr_ret, W_succ (by omega)]
        by_cases e : ((i : Int) == skip[k]) = true
        · rw [if_pos e, if_neg (by simp [e])]
        · have e : ((i : Int) == skip[k]) = false := by simpa using e
          rw [e]; rfl) (by
        unfold slices_Index.t0
        dsimp only
        rw [tr_ite, if_neg (by simp), tr_ret]) (by simp) (by simp) (m := rounds) (by unfold rounds; omega) with ⟨h1, h2⟩ | ⟨h1, k, h2⟩
    · refine .inl ⟨?_, ?_⟩
      · rw [tr_opt]
        show (((iterT slices_Index.t0 rounds (skip, (i : Int), 0, (skip.length : Int), (0 : Int), ())).run).bind _) = _
        have h2 : (iterT slices_Index.t0 rounds (skip, (i : Int), 0, (skip.length : Int), (0 : Int), ())).run = _ := h2
        rw [h2]; rfl
      · unfold hid
        refine List.any_eq_false.2 fun a ha => ?_
        have := List.all_eq_true.1 h1 a ha
        intro e
        have e : a = (i : Int) := by simpa using e
        subst e
        simp at this
    · refine .inr ⟨k, ?_, ?_⟩
      · rw [tr_opt]
        have h2 : (iterT slices_Index.t0 rounds (skip, (i : Int), 0, (skip.length : Int), (0 : Int), ())).run = _ := h2
        rw [h2]; rfl
      · unfold hid
        rw [List.all_eq_false] at h1
        obtain ⟨a, ha, h3⟩ := h1
        refine List.any_eq_true.2 ⟨a, ha, ?_⟩
        have : (i : Int) = a := by simpa using h3
        simp [this]
  unfold slices_Contains slices_Contains.t
  rw [tr_opt]
  rcases key with ⟨e, e2⟩ | ⟨j, e, e2⟩
  · rw [e, e2]; rfl
  · rw [e, e2, Option.bind_some, tr_ret]
    rw [decide_eq_true (by omega)]

theorem ask_out (l : List Tr) (skip : List Int) (r : Bx) {i : Nat} (h : l.length ≤ i) : ask l skip r i = none := by
  unfold ask; rw [List.getElem?_eq_none h]

theorem asker_eq (l : List Tr) (skip : List Int) (r : Bx) (hs : skip.length < 1000) {i : Nat} (hi : i < l.length) :
    hit_asker_1 ((i : Int), l, skip, r) = some (toHt ((ask l skip r i).map fun h => (i, h))) := by
  unfold hit_asker_1 hit_asker_1.t ask
  dsimp only
  rw [List.getElem?_eq_getElem hi]
  simp only [tr_ite, tr_opt, tr_ret, Contains_eq skip i hs, Option.bind_some, lget_nat _ hi, tri_Meet_eq]
  rw [if_neg (by simp; omega)]
  cases hid skip i with
  | true => rfl
  | false =>
    simp only [Bool.false_eq_true, if_false]
    cases meet l[i] r <;> rfl

/-- One hit ahead of another one. -/
def fwd (g : Nat → Option V3) : Nat → Option (Nat × V3)
  | 0 => none
  | k + 1 => match g k with
    | none => fwd g k
    | some h => match fwd g k with
      | none => some (k, h)
      | some b => if flt h.1 b.2.1 then some (k, h) else some b
theorem fwd_lt (g : Nat → Option V3) : ∀ k b, fwd g k = some b → b.1 < k
  | 0, _, h => by simp [fwd] at h
  | k + 1, b, h => by
    unfold fwd at h
    split at h
    · have := fwd_lt g k b h; omega
    · split at h
      · cases h; simp
      · rename_i c hc
        split at h
        · cases h; simp
        · cases h; have := fwd_lt g k b hc; omega

theorem Better_none (b : Ht) : tri_Better ((-1, f0, f0, f0), b) = some false := by
  unfold tri_Better tri_Better.t
  simp only [tr_ite, tr_ret]
  rw [if_pos (by simp)]
theorem Better_first (k : Nat) (h : V3) : tri_Better (((k : Int), h), (-1, f0, f0, f0)) = some true := by
  unfold tri_Better tri_Better.t
  simp only [tr_ite, tr_ret]
  have e1 : ((k : Int) == -1) = false := by simp
  rw [e1, Bool.false_and, Bool.false_or, if_neg (by simp), if_pos (by simp)]
theorem Better_later (k j : Nat) (h b : V3) (hj : j < k) : tri_Better (((k : Int), h), ((j : Int), b)) = some (flt h.1 b.1) := by
  unfold tri_Better tri_Better.t
  simp only [tr_ite, tr_ret]
  have e1 : ((k : Int) == (j : Int)) = false := by simp; omega
  rw [e1, Bool.false_and, Bool.false_or, if_neg (by simp), if_neg (by simp), show decide ((k : Int) < (j : Int)) = false from decide_eq_false (by omega), Bool.and_false, Bool.or_false]
  rfl
theorem Better_step (g : Nat → Option V3) (k : Nat) : tri_Better (toHt ((g k).map fun h => (k, h)), toHt (fwd g k)) = some (match g k with
    | none => false
    | some h => match fwd g k with
      | none => true
      | some b => flt h.1 b.2.1) := by
  cases hg : g k with
  | none => exact Better_none _
  | some h =>
    cases hb : fwd g k with
    | none => exact Better_first k h
    | some b => exact Better_later k b.1 h b.2 (fwd_lt g k b hb)

theorem hit_Scan_eq (l : List Tr) (r : Bx) (skip : List Int) (hs : skip.length < 1000) (hl : l.length < 1000) : hit_Scan (l, r, skip) = some (toHt (fwd (ask l skip r) l.length)) := by
  unfold hit_Scan hit_Scan.t hit_Scan.l0
  have h2 : (iterT hit_Scan.t0 rounds ((0, f0, f0, f0), (-1, f0, f0, f0), (l, skip, r), (l.length : Int), (0 : Int), ())).run = _ :=
    iter_count (t := hit_Scan.t0) (fun k => ((0, f0, f0, f0), toHt (fwd (ask l skip r) k), (l, skip, r), (l.length : Int), (k : Int), ())) (e := .exit 0) (z := ((0, f0, f0, f0), toHt (fwd (ask l skip r) l.length), (l, skip, r), (l.length : Int), (l.length : Int), ())) (by simp) l.length 0 rounds (fun i _ hi => by
      have hi : i < l.length := by omega
      unfold hit_Scan.t0
      dsimp only
      rw [tr_ite, if_pos (decide_eq_true (by omega)), tr_opt, asker_eq l skip r hs hi, Option.bind_some, tr_opt, Better_step, Option.bind_some, W_succ (by omega), tr_ite, tr_ret, tr_ret]
      conv => rhs; unfold fwd
      cases ask l skip r i with
      | none => rfl
      | some h =>
        cases fwd (ask l skip r) i with
        | none => rfl
        | some b =>
          show (if flt h.1 b.2.1 = true then some (Ex.normal, (0, f0, f0, f0), toHt (some (i, h)), (l, skip, r), (l.length : Int), ((i + 1 : Nat) : Int), ()) else some (Ex.normal, (0, f0, f0, f0), toHt (some b), (l, skip, r), (l.length : Int), ((i + 1 : Nat) : Int), ())) = some (Ex.normal, (0, f0, f0, f0), toHt (if flt h.1 b.2.1 = true then some (i, h) else some b), (l, skip, r), (l.length : Int), ((i + 1 : Nat) : Int), ())
          by_cases hf : flt h.1 b.2.1 = true
          · rw [if_pos hf, if_pos hf]
          · rw [if_neg hf, if_neg hf]) (by
      rw [Nat.zero_add]
      unfold hit_Scan.t0
      dsimp only
      rw [tr_ite, if_neg (by simp), tr_ret]) (by unfold rounds; omega)
  rw [tr_opt, h2]
  rfl

/-! ### From the end down -/
/-- The best of those from a place on. -/
def bwd (g : Nat → Option V3) (n : Nat) : Nat → Option (Nat × V3)
  | 0 => none
  | k + 1 => match g (n - (k + 1)) with
    | none => bwd g n k
    | some h => match bwd g n k with
      | none => some (n - (k + 1), h)
      | some b => if fle h.1 b.2.1 then some (n - (k + 1), h) else some b

/-- The best of some. -/
structure Best (g : Nat → Option V3) (lo hi : Nat) (b : Option (Nat × V3)) : Prop where
  none : b = none → ∀ j, lo ≤ j → j < hi → g j = none
  some : ∀ x, b = some x → lo ≤ x.1 ∧ x.1 < hi ∧ g x.1 = Option.some x.2 ∧ ∀ j h, lo ≤ j → j < hi → g j = Option.some h → (j < x.1 → klt (okey x.2.1) (okey h.1) = true) ∧ (x.1 ≤ j → kle (okey x.2.1) (okey h.1) = true)

theorem Best.unique {g : Nat → Option V3} {lo hi : Nat} {a b : Option (Nat × V3)} (ha : Best g lo hi a) (hb : Best g lo hi b) : a = b := by
  cases a with
  | none =>
    cases b with
    | none => rfl
    | some y =>
      obtain ⟨h1, h2, h3, _⟩ := hb.some y rfl
      have := ha.none rfl y.1 h1 h2
      rw [this] at h3; cases h3
  | some x =>
    obtain ⟨x1, x2, x3, x4⟩ := ha.some x rfl
    cases b with
    | none =>
      have := hb.none rfl x.1 x1 x2
      rw [this] at x3; cases x3
    | some y =>
      obtain ⟨y1, y2, y3, y4⟩ := hb.some y rfl
      have hx := x4 y.1 y.2 y1 y2 y3
      have hy := y4 x.1 x.2 x1 x2 x3
      have key : ∀ p q : Option Int, klt p q = true → kle q p = true → False := fun p q h1 h2 => by
        cases p <;> cases q <;> simp only [klt, kle, decide_eq_true_eq] at h1 h2 <;> first | omega | cases h1
      rcases Nat.lt_trichotomy x.1 y.1 with h | h | h
      · exact (key _ _ (hy.1 h) (hx.2 (by omega))).elim
      · have : x.2 = y.2 := by rw [h, y3] at x3; exact (Option.some.inj x3).symm
        congr 1
        exact Prod.ext h this
      · exact (key _ _ (hx.1 h) (hy.2 (by omega))).elim

/-- Hits are at numbers. -/
def Nums (g : Nat → Option V3) : Prop := ∀ i h, g i = some h → ∃ k, okey h.1 = some k

theorem fwd_best {g : Nat → Option V3} (hg : Nums g) : ∀ n, Best g 0 n (fwd g n)
  | 0 => ⟨fun _ j _ h => absurd h (Nat.not_lt_zero _), fun x h => by cases h⟩
  | n + 1 => by
    have ih := fwd_best hg n
    unfold fwd
    split
    · rename_i e
      refine ⟨fun h j h1 h2 => ?_, fun x h => ?_⟩
      · rcases Nat.lt_or_ge j n with h3 | h3
        · exact ih.none h j h1 h3
        · have : j = n := by omega
          subst this; exact e
      · obtain ⟨a, b, c, d⟩ := ih.some x h
        refine ⟨a, by omega, c, fun j y h1 h2 h3 => ?_⟩
        rcases Nat.lt_or_ge j n with h4 | h4
        · exact d j y h1 h4 h3
        · have : j = n := by omega
          subst this; rw [e] at h3; cases h3
    · rename_i h e
      obtain ⟨kh, hk⟩ := hg n h e
      split
      · rename_i e2
        refine ⟨fun h => (by cases h), fun x h => ?_⟩
        cases h
        refine ⟨Nat.zero_le _, by simp, e, fun j y h1 h2 h3 => ?_⟩
        rcases Nat.lt_or_ge j n with h4 | h4
        · rw [ih.none e2 j h1 h4] at h3; cases h3
        · have : j = n := by omega
          subst this; rw [e] at h3; cases h3
          refine ⟨fun h => absurd h (by simp), fun _ => ?_⟩
          rw [hk]; simp [kle]
      · rename_i b e2
        obtain ⟨a1, a2, a3, a4⟩ := ih.some b e2
        obtain ⟨kb, hkb⟩ := hg _ _ a3
        have hlt : flt h.1 b.2.1 = decide (kh < kb) := by unfold flt; rw [ford_lt, hk, hkb]; rfl
        by_cases hc : kh < kb
        · rw [if_pos (by rw [hlt]; exact decide_eq_true hc)]
          refine ⟨fun h => (by cases h), fun x h => ?_⟩
          cases h
          refine ⟨Nat.zero_le _, by simp, e, fun j y h1 h2 h3 => ?_⟩
          obtain ⟨ky, hky⟩ := hg _ _ h3
          rw [hk, hky]
          simp only [klt, kle, decide_eq_true_eq]
          rcases Nat.lt_or_ge j n with h4 | h4
          · obtain ⟨q1, q2⟩ := a4 j y h1 h4 h3
            rw [hkb, hky] at q1 q2
            simp only [klt, kle, decide_eq_true_eq] at q1 q2
            rcases Nat.lt_or_ge j b.1 with h5 | h5
            · have := q1 h5; omega
            · have := q2 h5; omega
          · have : j = n := by omega
            subst this; rw [e] at h3; cases h3
            rw [hk] at hky; cases hky
            omega
        · rw [if_neg (by rw [hlt]; simp [hc])]
          refine ⟨fun h => (by cases h), fun x h => ?_⟩
          cases h
          refine ⟨a1, by omega, a3, fun j y h1 h2 h3 => ?_⟩
          rcases Nat.lt_or_ge j n with h4 | h4
          · exact a4 j y h1 h4 h3
          · have : j = n := by omega
            subst this; rw [e] at h3; cases h3
            rw [hkb, hk]
            simp only [klt, kle, decide_eq_true_eq]
            omega

theorem bwd_best {g : Nat → Option V3} (hg : Nums g) (n : Nat) : ∀ k, k ≤ n → Best g (n - k) n (bwd g n k)
  | 0, _ => ⟨fun _ j h1 h2 => by omega, fun x h => by cases h⟩
  | k + 1, hk => by
    have ih := bwd_best hg n k (by omega)
    have hm : n - k = n - (k + 1) + 1 := by omega
    rw [hm] at ih
    unfold bwd
    generalize n - (k + 1) = m at *
    have hmn : m < n := by omega
    split
    · rename_i e
      refine ⟨fun h j h1 h2 => ?_, fun x h => ?_⟩
      · rcases Nat.lt_or_ge m j with h3 | h3
        · exact ih.none h j h3 h2
        · have : j = m := by omega
          subst this; exact e
      · obtain ⟨a, b, c, d⟩ := ih.some x h
        refine ⟨by omega, b, c, fun j y h1 h2 h3 => ?_⟩
        rcases Nat.lt_or_ge m j with h4 | h4
        · exact d j y h4 h2 h3
        · have : j = m := by omega
          subst this; rw [e] at h3; cases h3
    · rename_i h e
      obtain ⟨kh, hk⟩ := hg m h e
      split
      · rename_i e2
        refine ⟨fun h => (by cases h), fun x h => ?_⟩
        cases h
        refine ⟨Nat.le_refl _, hmn, e, fun j y h1 h2 h3 => ?_⟩
        rcases Nat.lt_or_ge m j with h4 | h4
        · rw [ih.none e2 j h4 h2] at h3; cases h3
        · have : j = m := by omega
          subst this; rw [e] at h3; cases h3
          refine ⟨fun h => absurd h (by simp), fun _ => ?_⟩
          rw [hk]; simp [kle]
      · rename_i b e2
        obtain ⟨a1, a2, a3, a4⟩ := ih.some b e2
        obtain ⟨kb, hkb⟩ := hg _ _ a3
        have hle : fle h.1 b.2.1 = decide (kh ≤ kb) := by unfold fle; rw [ford_le, hk, hkb]; rfl
        by_cases hc : kh ≤ kb
        · rw [if_pos (by rw [hle]; exact decide_eq_true hc)]
          refine ⟨fun h => (by cases h), fun x h => ?_⟩
          cases h
          refine ⟨Nat.le_refl _, hmn, e, fun j y h1 h2 h3 => ?_⟩
          obtain ⟨ky, hky⟩ := hg _ _ h3
          rw [hk, hky]
          simp only [klt, kle, decide_eq_true_eq]
          rcases Nat.lt_or_ge m j with h4 | h4
          · obtain ⟨q1, q2⟩ := a4 j y h4 h2 h3
            rw [hkb, hky] at q1 q2
            simp only [klt, kle, decide_eq_true_eq] at q1 q2
            rcases Nat.lt_or_ge j b.1 with h5 | h5
            · have := q1 h5; omega
            · have := q2 h5; omega
          · have : j = m := by omega
            subst this; rw [e] at h3; cases h3
            rw [hk] at hky; cases hky
            omega
        · rw [if_neg (by rw [hle]; simp [hc])]
          refine ⟨fun h => (by cases h), fun x h => ?_⟩
          cases h
          refine ⟨by omega, a2, a3, fun j y h1 h2 h3 => ?_⟩
          rcases Nat.lt_or_ge m j with h4 | h4
          · exact a4 j y h4 h2 h3
          · have : j = m := by omega
            subst this; rw [e] at h3; cases h3
            rw [hkb, hk]
            simp only [klt, kle, decide_eq_true_eq]
            omega

theorem fwd_bwd {g : Nat → Option V3} (hg : Nums g) (n : Nat) : bwd g n n = fwd g n := by
  have h1 := bwd_best hg n n (Nat.le_refl _)
  rw [Nat.sub_self] at h1
  exact h1.unique (fwd_best hg n)

theorem meet_num {t : Tr} {r : Bx} {h : V3} (e : meet t r = some h) : ∃ k, okey h.1 = some k := by
  unfold meet at e
  rw [Option.bind_eq_some_iff] at e
  obtain ⟨x, _, e⟩ := e
  unfold meetAt at e
  dsimp only at e
  split at e
  · cases e
  · split at e
    · rename_i hin
      cases e
      unfold inTri fgt at hin
      simp only [Bool.and_eq_true] at hin
      have h := hin.2.2
      rw [ford_gt] at h
      dsimp only
      rw [okey_0] at h
      revert h
      generalize okey _ = a
      intro h
      cases a with
      | none => simp [klt] at h
      | some k => exact ⟨k, rfl⟩
    · cases e
theorem ask_num (l : List Tr) (skip : List Int) (r : Bx) : Nums (ask l skip r) := fun i h e => by
  unfold ask at e
  split at e
  · split at e
    · cases e
    · exact meet_num e
  · cases e
end Go.Proofs.Pen

namespace Go.Proofs.Pen
open Go Go.Proofs

/-! ### Asking one after the other, by the pages -/
theorem take_any (skip : List Int) (i : Int) {k : Nat} (h : k < skip.length) : (skip.take (k + 1)).any (fun a => a == i) = ((skip.take k).any (fun a => a == i) || skip[k] == i) := by
  rw [List.take_add_one, List.getElem?_eq_getElem h, List.any_append]; simp

theorem First_skip (l : List Tr) (skip : List Int) (r : Bx) (z b : Ht) (i : Nat) (t u v : Fl) (ok : Bool) (hs : skip.length < 1000) :
    ref13_First.l2 (l, skip, r, z, b, (i : Int), t, u, v, ok, 0, ()) = some (.exit 2, l, skip, r, z, b, (i : Int), t, u, v, (ok && !hid skip i), (skip.length : Int), ()) := by
  have h2 : (iterT ref13_First.t2 rounds (l, skip, r, z, b, (i : Int), t, u, v, ok, (0 : Int), ())).run = some (.exit 2, l, skip, r, z, b, (i : Int), t, u, v, (ok && !(skip.take skip.length).any (fun a => a == (i : Int))), (skip.length : Int), ()) := by
    have := iter_count (t := ref13_First.t2) (fun k => (l, skip, r, z, b, (i : Int), t, u, v, (ok && !(skip.take k).any (fun a => a == (i : Int))), (k : Int), ())) (e := .exit 2) (z := (l, skip, r, z, b, (i : Int), t, u, v, (ok && !(skip.take skip.length).any (fun a => a == (i : Int))), (skip.length : Int), ())) (by simp) skip.length 0 rounds (fun k _ hk => by
      have hk : k < skip.length := by omega
      unfold ref13_First.t2
      dsimp only
      rw [tr_ite, if_pos (decide_eq_true (by omega)), tr_ite, tr_opt, lget_nat _ hk, Option.bind_some, tr_ret, tr_ret, W_succ (by omega), take_any skip i hk]
      cases ok with
      | false => rfl
      | true =>
        cases (skip.take k).any (fun a => a == (i : Int)) with
        | true => rfl
        | false => rfl) (by
      rw [Nat.zero_add]
      unfold ref13_First.t2
      dsimp only
      rw [tr_ite, if_neg (by simp), tr_ret]) (by unfold rounds; omega)
    simp only [List.take_zero, List.any_nil, Bool.not_false, Bool.and_true] at this
    exact this
  unfold ref13_First.l2
  rw [h2, List.take_length]; rfl

theorem Any_skip (l : List Tr) (m : Fl) (skip : List Int) (r : Bx) (b : Bool) (i : Nat) (t : Fl) (ok : Bool) (hs : skip.length < 1000) :
    ref13_Any.l2 (l, m, skip, r, b, (i : Int), t, ok, 0, ()) = some (.exit 2, l, m, skip, r, b, (i : Int), t, (ok && !hid skip i), (skip.length : Int), ()) := by
  have h2 : (iterT ref13_Any.t2 rounds (l, m, skip, r, b, (i : Int), t, ok, (0 : Int), ())).run = some (.exit 2, l, m, skip, r, b, (i : Int), t, (ok && !(skip.take skip.length).any (fun a => a == (i : Int))), (skip.length : Int), ()) := by
    have := iter_count (t := ref13_Any.t2) (fun k => (l, m, skip, r, b, (i : Int), t, (ok && !(skip.take k).any (fun a => a == (i : Int))), (k : Int), ())) (e := .exit 2) (z := (l, m, skip, r, b, (i : Int), t, (ok && !(skip.take skip.length).any (fun a => a == (i : Int))), (skip.length : Int), ())) (by simp) skip.length 0 rounds (fun k _ hk => by
      have hk : k < skip.length := by omega
      unfold ref13_Any.t2
      dsimp only
      rw [tr_ite, if_pos (decide_eq_true (by omega)), tr_ite, tr_opt, lget_nat _ hk, Option.bind_some, tr_ret, tr_ret, W_succ (by omega), take_any skip i hk]
      cases ok with
      | false => rfl
      | true =>
        cases (skip.take k).any (fun a => a == (i : Int)) with
        | true => rfl
        | false => rfl) (by
      rw [Nat.zero_add]
      unfold ref13_Any.t2
      dsimp only
      rw [tr_ite, if_neg (by simp), tr_ret]) (by unfold rounds; omega)
    simp only [List.take_zero, List.any_nil, Bool.not_false, Bool.and_true] at this
    exact this
  unfold ref13_Any.l2
  rw [h2, List.take_length]; rfl

/-- The best so far, and the one that is asked. -/
theorem First_step (l : List Tr) (skip : List Int) (r : Bx) (z : Ht) (hs : skip.length < 1000) {k : Nat} (hk : k < l.length) (_hl : l.length < 1000) :
    (ref13_First.t0 (l, skip, r, z, toHt (bwd (ask l skip r) l.length k), ((l.length - (k + 1) : Nat) : Int), ())).run = some (.normal, l, skip, r, z, toHt (bwd (ask l skip r) l.length (k + 1)), W (((l.length - (k + 1) : Nat) : Int) - 1), ()) := by
  have hi : l.length - (k + 1) < l.length := by omega
  conv => rhs; rw [show bwd (ask l skip r) l.length (k + 1) = (match ask l skip r (l.length - (k + 1)) with
    | none => bwd (ask l skip r) l.length k
    | some h => match bwd (ask l skip r) l.length k with
      | none => some (l.length - (k + 1), h)
      | some b => if fle h.1 b.2.1 then some (l.length - (k + 1), h) else some b) from rfl]
  generalize l.length - (k + 1) = i at hi ⊢
  generalize bwd (ask l skip r) l.length k = B
  unfold ref13_First.t0 ask
  dsimp only
  have hx : exEq (Ex.exit 2) (Ex.exit 2) = true := rfl
  rw [tr_ite, if_pos (decide_eq_true (by omega)), tr_opt, lget_nat _ hi, List.getElem?_eq_getElem hi, Option.bind_some, tr_opt, ref10_Meet_eq, Option.bind_some, tr_opt, First_skip _ _ _ _ _ _ _ _ _ _ hs, Option.bind_some, tr_ite, if_pos hx, tr_ite, tr_ret, tr_ret]
  dsimp only
  cases hid skip i with
  | true => rw [if_neg (by simp)]; rfl
  | false =>
    simp only [Bool.not_false, Bool.and_true, Bool.false_eq_true, if_false]
    cases meet l[i] r with
    | none => rw [if_neg (by simp)]
    | some h =>
      dsimp only
      rw [Bool.true_and]
      cases B with
      | none => rw [if_pos (by simp [toHt])]; rfl
      | some b =>
        show (if (decide ((b.1 : Int) < 0) || fle h.1 b.2.1) = true then some (Ex.normal, l, skip, r, z, toHt (some (i, h)), W ((i : Int) - 1), ()) else some (Ex.normal, l, skip, r, z, toHt (some b), W ((i : Int) - 1), ())) = some (Ex.normal, l, skip, r, z, toHt (if fle h.1 b.2.1 = true then some (i, h) else some b), W ((i : Int) - 1), ())
        rw [show decide ((b.1 : Int) < 0) = false from decide_eq_false (by omega), Bool.false_or]
        by_cases hf : fle h.1 b.2.1 = true
        · rw [if_pos hf, if_pos hf]
        · rw [if_neg hf, if_neg hf]

theorem ref13_First_eq (l : List Tr) (r : Bx) (skip : List Int) (hs : skip.length < 1000) (hl : l.length < 1000) : ref13_First (l, r, skip) = some (toHt (fwd (ask l skip r) l.length)) := by
  unfold ref13_First ref13_First.t ref13_First.l0
  have hn := fwd_bwd (ask_num l skip r) l.length
  have h2 : (iterT ref13_First.t0 rounds (l, skip, r, (0, f0, f0, f0), (-1, f0, f0, f0), W ((l.length : Int) - 1), ())).run = some (.exit 0, l, skip, r, (0, f0, f0, f0), toHt (bwd (ask l skip r) l.length l.length), (-1 : Int), ()) := by
    have wd : ∀ k, k < l.length + 1 → W (((l.length - k : Nat) : Int) - 1) = ((l.length - k : Nat) : Int) - 1 := fun k _ => W_id (by omega) (by omega)
    have := iter_count (t := ref13_First.t0) (fun k => (l, skip, r, (0, f0, f0, f0), toHt (bwd (ask l skip r) l.length k), W (((l.length - k : Nat) : Int) - 1), ())) (e := .exit 0) (z := (l, skip, r, (0, f0, f0, f0), toHt (bwd (ask l skip r) l.length l.length), (-1 : Int), ())) (by simp) l.length 0 rounds (fun k _ hk => by
      have hk : k < l.length := by omega
      have e : W (((l.length - k : Nat) : Int) - 1) = ((l.length - (k + 1) : Nat) : Int) := by rw [wd k (by omega)]; omega
      rw [e]
      exact First_step l skip r _ hs hk hl) (by
      rw [Nat.zero_add, wd _ (by omega), Nat.sub_self]
      unfold ref13_First.t0
      dsimp only
      rw [tr_ite, if_neg (by simp), tr_ret]
      rfl) (by unfold rounds; omega)
    exact this
  have hx : exEq (Ex.exit 0) (Ex.exit 0) = true := rfl
  rw [tr_opt, h2, Option.bind_some, tr_ite, if_pos hx, tr_ret, hn]

/-! ### Whether a ray is blocked -/
def blk (g : Nat → Option V3) (m : Fl) (i : Nat) : Bool := match g i with
  | some h => flt h.1 m
  | none => false

/-- A loop that looks for one. -/
theorem iter_any {σ : Type} {t : σ → T (Ex × σ)} (c : Nat → Bool) (st : Nat → σ) (zr : Nat → σ) (ze : σ) (n : Nat) (hstep : ∀ i, i < n → (t (st i)).run = some (if c i then (.ret, zr i) else (.normal, st (i + 1))))
    (hend : (t (st n)).run = some (.exit 0, ze)) {m : Nat} (hm : n < m) :
      ((List.range n).any c = false ∧ (iterT t m (st 0)).run = some (.exit 0, ze)) ∨ ((List.range n).any c = true ∧ ∃ i, (iterT t m (st 0)).run = some (.ret, zr i)) := by
  rcases iter_scan (t := t) (List.range n) (fun i => !c i) st zr ze .ret (.exit 0) (fun i h => by
    have h : i < n := by simpa using h
    rw [hstep i h, List.getElem_range]
    cases c i <;> rfl) (by rw [List.length_range]; exact hend) (by simp) (by simp) (m := m) (by rw [List.length_range]; exact hm) with ⟨h1, h2⟩ | ⟨h1, h2⟩
  · refine .inl ⟨?_, h2⟩
    refine List.any_eq_false.2 fun a ha => ?_
    have := List.all_eq_true.1 h1 a ha
    simpa using this
  · refine .inr ⟨?_, h2⟩
    rw [List.all_eq_false] at h1
    obtain ⟨a, ha, h3⟩ := h1
    exact List.any_eq_true.2 ⟨a, ha, by simpa using h3⟩

def anyOf (l : List Tr) (skip : List Int) (r : Bx) (m : Fl) : Bool := (List.range l.length).any (blk (ask l skip r) m)

theorem hit_ScanAny_eq (l : List Tr) (r : Bx) (m : Fl) (skip : List Int) (hs : skip.length < 1000) (hl : l.length < 1000) : hit_ScanAny (l, r, m, skip) = some (anyOf l skip r m) := by
  unfold hit_ScanAny hit_ScanAny.t hit_ScanAny.l0 anyOf
  have key := iter_any (t := hit_ScanAny.t0) (blk (ask l skip r) m) (fun k => (m, false, (l, skip, r), (l.length : Int), (k : Int), ())) (fun k => (m, true, (l, skip, r), (l.length : Int), (k : Int), ())) (m, false, (l, skip, r), (l.length : Int), (l.length : Int), ()) l.length (fun i hi => by
    unfold hit_ScanAny.t0 blk
    dsimp only
    rw [tr_ite, if_pos (decide_eq_true (by omega)), tr_opt, asker_eq l skip r hs hi, Option.bind_some, tr_ite, tr_ret, tr_ret, W_succ (by omega)]
    cases ask l skip r i with
    | none => rfl
    | some h =>
      show (if (decide ((i : Int) ≥ 0) && flt h.1 m) = true then _ else _) = some (if flt h.1 m = true then _ else _)
      rw [decide_eq_true (by omega), Bool.true_and]
      by_cases hf : flt h.1 m = true
      · rw [if_pos hf, if_pos hf]
      · rw [if_neg hf, if_neg hf]) (by
    unfold hit_ScanAny.t0
    dsimp only
    rw [tr_ite, if_neg (by simp), tr_ret]) (m := rounds) (by unfold rounds; omega)
  rw [tr_opt]
  rcases key with ⟨h1, h2⟩ | ⟨h1, i, h2⟩
  · have h2 : (iterT hit_ScanAny.t0 rounds (m, false, (l, skip, r), (l.length : Int), (0 : Int), ())).run = _ := h2
    rw [h2, h1]; rfl
  · have h2 : (iterT hit_ScanAny.t0 rounds (m, false, (l, skip, r), (l.length : Int), (0 : Int), ())).run = _ := h2
    rw [h2, h1]; rfl

theorem ref13_Any_eq (l : List Tr) (r : Bx) (m : Fl) (skip : List Int) (hs : skip.length < 1000) (hl : l.length < 1000) : ref13_Any (l, r, m, skip) = some (anyOf l skip r m) := by
  unfold ref13_Any ref13_Any.t ref13_Any.l0 anyOf
  have hx : exEq (Ex.exit 2) (Ex.exit 2) = true := rfl
  have key := iter_any (t := ref13_Any.t0) (blk (ask l skip r) m) (fun k => (l, m, skip, r, false, (k : Int), ())) (fun k => (l, m, skip, r, true, (k : Int), ())) (l, m, skip, r, false, (l.length : Int), ()) l.length (fun i hi => by
    unfold ref13_Any.t0 blk ask
    dsimp only
    rw [tr_ite, if_pos (decide_eq_true (by omega)), tr_opt, lget_nat _ hi, List.getElem?_eq_getElem hi, Option.bind_some, tr_opt, ref10_Meet_eq, Option.bind_some, tr_opt, Any_skip _ _ _ _ _ _ _ _ hs, Option.bind_some, tr_ite, if_pos hx, tr_ite, tr_ret, tr_ret, W_succ (by omega)]
    dsimp only
    cases hid skip i with
    | true => rw [if_neg (by simp)]; rfl
    | false =>
      simp only [Bool.not_false, Bool.and_true, Bool.false_eq_true, if_false]
      cases meet l[i] r with
      | none => rfl
      | some h =>
        show (if (true && flt h.1 m) = true then _ else _) = some (if flt h.1 m = true then _ else _)
        rw [Bool.true_and]
        by_cases hf : flt h.1 m = true
        · rw [if_pos hf, if_pos hf]
        · rw [if_neg hf, if_neg hf]) (by
    unfold ref13_Any.t0
    dsimp only
    rw [tr_ite, if_neg (by simp), tr_ret]) (m := rounds) (by unfold rounds; omega)
  rw [tr_opt]
  rcases key with ⟨h1, h2⟩ | ⟨h1, i, h2⟩
  · have h2 : (iterT ref13_Any.t0 rounds (l, m, skip, r, false, (0 : Int), ())).run = _ := h2
    rw [h2, h1]; rfl
  · have h2 : (iterT ref13_Any.t0 rounds (l, m, skip, r, false, (0 : Int), ())).run = _ := h2
    rw [h2, h1]; rfl

/-! ### The law -/
theorem Is_self (h : Ht) : ref10_Is (h, h) = some true := by
  unfold ref10_Is ref10_Is.t
  dsimp only
  have key : ∀ a : Fl, (ford a a == some Ordering.eq || ford a a != some Ordering.eq && ford a a != some Ordering.eq) = true := fun a => by
    cases e : (ford a a == some Ordering.eq) with
    | true => rfl
    | false => simp only [bne, e]; rfl
  simp only [tr_ite, tr_ret, key, if_true, beq_self_eq_true]

theorem skips_eq (x : List Int) : ∃ y : List Int, law13_skips x = some y ∧ y.length < 1000 := by
  unfold law13_skips law13_skips.t
  by_cases h : (x.length : Int) > 10
  · refine ⟨_, by rw [tr_ite, if_pos (decide_eq_true h), tr_ite, if_pos (by simp; omega), tr_ret], ?_⟩
    rw [List.length_take]
    have : (Int.toNat 10 - Int.toNat 0) = 10 := rfl
    omega
  · exact ⟨x, by rw [tr_ite, if_neg (by simpa using h), tr_ret], by omega⟩

theorem HitScans_core (l : List Tr) (r : Bx) (m : Fl) (y : List Int) (hs : y.length < 1000) (hl : l.length < 1000) :
    (T.ite true (T.opt (hit_Scan (l, r, y)) fun y_1 => T.opt (ref13_First (l, r, y)) fun y_2 => T.opt (ref10_Is (y_1, y_2)) fun y_3 => T.ite y_3 (T.opt (hit_ScanAny (l, r, m, y)) fun y_4 => T.opt (ref13_Any (l, r, m, y)) fun y => T.ret (y_4 == y)) (T.ret false)) (T.ret false)).run = some true := by
  rw [tr_ite, if_pos rfl, tr_opt, hit_Scan_eq l r y hs hl, Option.bind_some, tr_opt, ref13_First_eq l r y hs hl, Option.bind_some, tr_opt, Is_self, Option.bind_some, tr_ite, if_pos rfl, tr_opt, hit_ScanAny_eq l r m y hs hl, Option.bind_some, tr_opt, ref13_Any_eq l r m y hs hl, Option.bind_some, tr_ret]
  simp

theorem HitScans_all (x : dens [(.st (.pair (.sl TTri) (.pair TBox (.pair .flt (.sl TI)))))]) (_ : insAll [(.st (.pair (.sl TTri) (.pair TBox (.pair .flt (.sl TI)))))] x) : (law13_HitScans.t x).run = some true := by
  obtain ⟨l, r, m, s⟩ := x
  obtain ⟨y, hy, hs⟩ := skips_eq s
  unfold law13_HitScans.t
  dsimp only
  rw [tr_opt, hy, Option.bind_some, tr_ite]
  by_cases h : (List.length (α := Tr) l : Int) > 100
  · rw [if_pos (decide_eq_true h), tr_ite, if_pos (by simp; exact Int.le_of_lt h)]
    refine HitScans_core (List.take (Int.toNat 100 - Int.toNat 0) (List.drop (Int.toNat 0) (l : List Tr))) r m y hs ?_
    rw [List.length_take]
    have : (Int.toNat 100 - Int.toNat 0) = 100 := rfl
    omega
  · rw [if_neg (by simpa using h)]
    exact HitScans_core l r m y hs (by omega)
end Go.Proofs.Pen
