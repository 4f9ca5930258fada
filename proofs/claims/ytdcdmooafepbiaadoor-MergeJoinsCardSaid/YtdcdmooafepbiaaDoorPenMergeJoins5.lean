/- A part of the proof that the law MergeJoins is true of every input: models of the functions that the law reaches, and what holds of them. -/
import Derived.Test.YtdcdmooafepbiaaDoorPenKit0
import Derived.Test.YtdcdmooafepbiaaDoorPenKit1
import Derived.Test.YtdcdmooafepbiaaDoorPenKit2
import Derived.Test.YtdcdmooafepbiaaDoorPenKit3
import Derived.Test.YtdcdmooafepbiaaDoorPenMergeJoins4
namespace Go.Proofs.Pen
open Go Go.Proofs
def ref22_Same.L0 : List (Nat × Lay) := [(2, .box TScn), (3, .box TScn), (4, .val .bool), (5, .val TI)]
noncomputable def ref22_Same.t0 (x : ((List ((Int × Int × Int) × (Int × Int × Int) × Int)) × (List ((Int × Int × Int) × (Int × Int × Int) × (Int × Int × Int) × Int)) × (List (Int × Int × Int × Int)) × Int × (List (Int × Int × Int)) × ((Int × Int × Int) × (Int × Int × Int) × (Int × Int × Int) × Int × Int × Int) × Int × Int) × ((List ((Int × Int × Int) × (Int × Int × Int) × Int)) × (List ((Int × Int × Int) × (Int × Int × Int) × (Int × Int × Int) × Int)) × (List (Int × Int × Int × Int)) × Int × (List (Int × Int × Int)) × ((Int × Int × Int) × (Int × Int × Int) × (Int × Int × Int) × Int × Int × Int) × Int × Int) × Bool × Int × Unit) : T (Ex × ((List ((Int × Int × Int) × (Int × Int × Int) × Int)) × (List ((Int × Int × Int) × (Int × Int × Int) × (Int × Int × Int) × Int)) × (List (Int × Int × Int × Int)) × Int × (List (Int × Int × Int)) × ((Int × Int × Int) × (Int × Int × Int) × (Int × Int × Int) × Int × Int × Int) × Int × Int) × ((List ((Int × Int × Int) × (Int × Int × Int) × Int)) × (List ((Int × Int × Int) × (Int × Int × Int) × (Int × Int × Int) × Int)) × (List (Int × Int × Int × Int)) × Int × (List (Int × Int × Int)) × ((Int × Int × Int) × (Int × Int × Int) × (Int × Int × Int) × Int × Int × Int) × Int × Int) × Bool × Int × Unit) := T.ite (decide (x.2.2.2.1 < (↑(List.length x.1.1) : Int))) (T.opt (lget x.1.1 x.2.2.2.1) fun y => T.opt (lget x.2.1.1 x.2.2.2.1) fun y_1 => T.ite (!(y.1.1 == y_1.fst.fst && (y.1.2.1 == y_1.fst.snd.fst && y.1.2.2 == y_1.fst.snd.snd) && (y.2.1.1 == y_1.snd.fst.fst && (y.2.1.2.1 == y_1.snd.fst.snd.fst && y.2.1.2.2 == y_1.snd.fst.snd.snd) && y.2.2 == y_1.snd.snd))) (T.ret (Ex.ret, x.1, x.2.1, false, x.2.2.2.1, ())) (T.ret (Ex.normal, x.1, x.2.1, x.2.2.1, W (x.2.2.2.1 + (1 : Int)), ()))) (T.ret (Ex.exit (0 : Nat), x.1, x.2.1, x.2.2.1, x.2.2.2.1, ()))
noncomputable def ref22_Same.l0 (x : ((List ((Int × Int × Int) × (Int × Int × Int) × Int)) × (List ((Int × Int × Int) × (Int × Int × Int) × (Int × Int × Int) × Int)) × (List (Int × Int × Int × Int)) × Int × (List (Int × Int × Int)) × ((Int × Int × Int) × (Int × Int × Int) × (Int × Int × Int) × Int × Int × Int) × Int × Int) × ((List ((Int × Int × Int) × (Int × Int × Int) × Int)) × (List ((Int × Int × Int) × (Int × Int × Int) × (Int × Int × Int) × Int)) × (List (Int × Int × Int × Int)) × Int × (List (Int × Int × Int)) × ((Int × Int × Int) × (Int × Int × Int) × (Int × Int × Int) × Int × Int × Int) × Int × Int) × Bool × Int × Unit) : Option (Ex × ((List ((Int × Int × Int) × (Int × Int × Int) × Int)) × (List ((Int × Int × Int) × (Int × Int × Int) × (Int × Int × Int) × Int)) × (List (Int × Int × Int × Int)) × Int × (List (Int × Int × Int)) × ((Int × Int × Int) × (Int × Int × Int) × (Int × Int × Int) × Int × Int × Int) × Int × Int) × ((List ((Int × Int × Int) × (Int × Int × Int) × Int)) × (List ((Int × Int × Int) × (Int × Int × Int) × (Int × Int × Int) × Int)) × (List (Int × Int × Int × Int)) × Int × (List (Int × Int × Int)) × ((Int × Int × Int) × (Int × Int × Int) × (Int × Int × Int) × Int × Int × Int) × Int × Int) × Bool × Int × Unit) := (iterT ref22_Same.t0 rounds x).run
theorem ref22_Same.k0 : bodies 0 (lp Tryd.f12 []) = [.loop (loopIn 0 (lp Tryd.f12 []))] ∧ WP Tryd.prog 0 (.block 0 (.loop (loopIn 0 (lp Tryd.f12 [])))) (loopS ref22_Same.L0 143 0 [.exit 0, .ret] ref22_Same.l0) :=
  loop_tree (L := ref22_Same.L0) (F := ({ quiet := Xs, deep := noDeep } : Fns)) (D := D0) (tab := []) (t := ref22_Same.t0) mixed Xok (deep_none _) (fun _ => rfl) (by kernel_rfl) (by kernel_rfl) trivial (fun x => by kernel_rfl)
def ref22_Same.L2 : List (Nat × Lay) := [(2, .box TScn), (3, .box TScn), (4, .val .bool), (6, .val TI)]
noncomputable def ref22_Same.t2 (x : ((List ((Int × Int × Int) × (Int × Int × Int) × Int)) × (List ((Int × Int × Int) × (Int × Int × Int) × (Int × Int × Int) × Int)) × (List (Int × Int × Int × Int)) × Int × (List (Int × Int × Int)) × ((Int × Int × Int) × (Int × Int × Int) × (Int × Int × Int) × Int × Int × Int) × Int × Int) × ((List ((Int × Int × Int) × (Int × Int × Int) × Int)) × (List ((Int × Int × Int) × (Int × Int × Int) × (Int × Int × Int) × Int)) × (List (Int × Int × Int × Int)) × Int × (List (Int × Int × Int)) × ((Int × Int × Int) × (Int × Int × Int) × (Int × Int × Int) × Int × Int × Int) × Int × Int) × Bool × Int × Unit) : T (Ex × ((List ((Int × Int × Int) × (Int × Int × Int) × Int)) × (List ((Int × Int × Int) × (Int × Int × Int) × (Int × Int × Int) × Int)) × (List (Int × Int × Int × Int)) × Int × (List (Int × Int × Int)) × ((Int × Int × Int) × (Int × Int × Int) × (Int × Int × Int) × Int × Int × Int) × Int × Int) × ((List ((Int × Int × Int) × (Int × Int × Int) × Int)) × (List ((Int × Int × Int) × (Int × Int × Int) × (Int × Int × Int) × Int)) × (List (Int × Int × Int × Int)) × Int × (List (Int × Int × Int)) × ((Int × Int × Int) × (Int × Int × Int) × (Int × Int × Int) × Int × Int × Int) × Int × Int) × Bool × Int × Unit) := T.ite (decide (x.2.2.2.1 < (↑(List.length x.1.2.1) : Int))) (T.opt (lget x.1.2.1 x.2.2.2.1) fun y => T.opt (lget x.2.1.2.1 x.2.2.2.1) fun y_1 => T.ite (!(y.1.1 == y_1.fst.fst && (y.1.2.1 == y_1.fst.snd.fst && y.1.2.2 == y_1.fst.snd.snd) && (y.2.1.1 == y_1.snd.fst.fst && (y.2.1.2.1 == y_1.snd.fst.snd.fst && y.2.1.2.2 == y_1.snd.fst.snd.snd) && (y.2.2.1.1 == y_1.snd.snd.fst.fst && (y.2.2.1.2.1 == y_1.snd.snd.fst.snd.fst && y.2.2.1.2.2 == y_1.snd.snd.fst.snd.snd) && y.2.2.2 == y_1.snd.snd.snd)))) (T.ret (Ex.ret, x.1, x.2.1, false, x.2.2.2.1, ())) (T.ret (Ex.normal, x.1, x.2.1, x.2.2.1, W (x.2.2.2.1 + (1 : Int)), ()))) (T.ret (Ex.exit (2 : Nat), x.1, x.2.1, x.2.2.1, x.2.2.2.1, ()))
noncomputable def ref22_Same.l2 (x : ((List ((Int × Int × Int) × (Int × Int × Int) × Int)) × (List ((Int × Int × Int) × (Int × Int × Int) × (Int × Int × Int) × Int)) × (List (Int × Int × Int × Int)) × Int × (List (Int × Int × Int)) × ((Int × Int × Int) × (Int × Int × Int) × (Int × Int × Int) × Int × Int × Int) × Int × Int) × ((List ((Int × Int × Int) × (Int × Int × Int) × Int)) × (List ((Int × Int × Int) × (Int × Int × Int) × (Int × Int × Int) × Int)) × (List (Int × Int × Int × Int)) × Int × (List (Int × Int × Int)) × ((Int × Int × Int) × (Int × Int × Int) × (Int × Int × Int) × Int × Int × Int) × Int × Int) × Bool × Int × Unit) : Option (Ex × ((List ((Int × Int × Int) × (Int × Int × Int) × Int)) × (List ((Int × Int × Int) × (Int × Int × Int) × (Int × Int × Int) × Int)) × (List (Int × Int × Int × Int)) × Int × (List (Int × Int × Int)) × ((Int × Int × Int) × (Int × Int × Int) × (Int × Int × Int) × Int × Int × Int) × Int × Int) × ((List ((Int × Int × Int) × (Int × Int × Int) × Int)) × (List ((Int × Int × Int) × (Int × Int × Int) × (Int × Int × Int) × Int)) × (List (Int × Int × Int × Int)) × Int × (List (Int × Int × Int)) × ((Int × Int × Int) × (Int × Int × Int) × (Int × Int × Int) × Int × Int × Int) × Int × Int) × Bool × Int × Unit) := (iterT ref22_Same.t2 rounds x).run
theorem ref22_Same.k2 : bodies 2 (lp Tryd.f12 []) = [.loop (loopIn 2 (lp Tryd.f12 []))] ∧ WP Tryd.prog 0 (.block 2 (.loop (loopIn 2 (lp Tryd.f12 [])))) (loopS ref22_Same.L2 143 2 [.exit 2, .ret] ref22_Same.l2) :=
  loop_tree (L := ref22_Same.L2) (F := ({ quiet := Xs, deep := noDeep } : Fns)) (D := D0) (tab := []) (t := ref22_Same.t2) mixed Xok (deep_none _) (fun _ => rfl) (by kernel_rfl) (by kernel_rfl) trivial (fun x => by kernel_rfl)
def ref22_Same.L4 : List (Nat × Lay) := [(2, .box TScn), (3, .box TScn), (4, .val .bool), (7, .val TI)]
noncomputable def ref22_Same.t4 (x : ((List ((Int × Int × Int) × (Int × Int × Int) × Int)) × (List ((Int × Int × Int) × (Int × Int × Int) × (Int × Int × Int) × Int)) × (List (Int × Int × Int × Int)) × Int × (List (Int × Int × Int)) × ((Int × Int × Int) × (Int × Int × Int) × (Int × Int × Int) × Int × Int × Int) × Int × Int) × ((List ((Int × Int × Int) × (Int × Int × Int) × Int)) × (List ((Int × Int × Int) × (Int × Int × Int) × (Int × Int × Int) × Int)) × (List (Int × Int × Int × Int)) × Int × (List (Int × Int × Int)) × ((Int × Int × Int) × (Int × Int × Int) × (Int × Int × Int) × Int × Int × Int) × Int × Int) × Bool × Int × Unit) : T (Ex × ((List ((Int × Int × Int) × (Int × Int × Int) × Int)) × (List ((Int × Int × Int) × (Int × Int × Int) × (Int × Int × Int) × Int)) × (List (Int × Int × Int × Int)) × Int × (List (Int × Int × Int)) × ((Int × Int × Int) × (Int × Int × Int) × (Int × Int × Int) × Int × Int × Int) × Int × Int) × ((List ((Int × Int × Int) × (Int × Int × Int) × Int)) × (List ((Int × Int × Int) × (Int × Int × Int) × (Int × Int × Int) × Int)) × (List (Int × Int × Int × Int)) × Int × (List (Int × Int × Int)) × ((Int × Int × Int) × (Int × Int × Int) × (Int × Int × Int) × Int × Int × Int) × Int × Int) × Bool × Int × Unit) := T.ite (decide (x.2.2.2.1 < (↑(List.length x.1.2.2.1) : Int))) (T.opt (lget x.1.2.2.1 x.2.2.2.1) fun y => T.opt (lget x.2.1.2.2.1 x.2.2.2.1) fun y_1 => T.ite (!(y.1 == y_1.fst && (y.2.1 == y_1.snd.fst && (y.2.2.1 == y_1.snd.snd.fst && y.2.2.2 == y_1.snd.snd.snd)))) (T.ret (Ex.ret, x.1, x.2.1, false, x.2.2.2.1, ())) (T.ret (Ex.normal, x.1, x.2.1, x.2.2.1, W (x.2.2.2.1 + (1 : Int)), ()))) (T.ret (Ex.exit (4 : Nat), x.1, x.2.1, x.2.2.1, x.2.2.2.1, ()))
noncomputable def ref22_Same.l4 (x : ((List ((Int × Int × Int) × (Int × Int × Int) × Int)) × (List ((Int × Int × Int) × (Int × Int × Int) × (Int × Int × Int) × Int)) × (List (Int × Int × Int × Int)) × Int × (List (Int × Int × Int)) × ((Int × Int × Int) × (Int × Int × Int) × (Int × Int × Int) × Int × Int × Int) × Int × Int) × ((List ((Int × Int × Int) × (Int × Int × Int) × Int)) × (List ((Int × Int × Int) × (Int × Int × Int) × (Int × Int × Int) × Int)) × (List (Int × Int × Int × Int)) × Int × (List (Int × Int × Int)) × ((Int × Int × Int) × (Int × Int × Int) × (Int × Int × Int) × Int × Int × Int) × Int × Int) × Bool × Int × Unit) : Option (Ex × ((List ((Int × Int × Int) × (Int × Int × Int) × Int)) × (List ((Int × Int × Int) × (Int × Int × Int) × (Int × Int × Int) × Int)) × (List (Int × Int × Int × Int)) × Int × (List (Int × Int × Int)) × ((Int × Int × Int) × (Int × Int × Int) × (Int × Int × Int) × Int × Int × Int) × Int × Int) × ((List ((Int × Int × Int) × (Int × Int × Int) × Int)) × (List ((Int × Int × Int) × (Int × Int × Int) × (Int × Int × Int) × Int)) × (List (Int × Int × Int × Int)) × Int × (List (Int × Int × Int)) × ((Int × Int × Int) × (Int × Int × Int) × (Int × Int × Int) × Int × Int × Int) × Int × Int) × Bool × Int × Unit) := (iterT ref22_Same.t4 rounds x).run
theorem ref22_Same.k4 : bodies 4 (lp Tryd.f12 []) = [.loop (loopIn 4 (lp Tryd.f12 []))] ∧ WP Tryd.prog 0 (.block 4 (.loop (loopIn 4 (lp Tryd.f12 [])))) (loopS ref22_Same.L4 143 4 [.exit 4, .ret] ref22_Same.l4) :=
  loop_tree (L := ref22_Same.L4) (F := ({ quiet := Xs, deep := noDeep } : Fns)) (D := D0) (tab := []) (t := ref22_Same.t4) mixed Xok (deep_none _) (fun _ => rfl) (by kernel_rfl) (by kernel_rfl) trivial (fun x => by kernel_rfl)
def ref22_Same.L6 : List (Nat × Lay) := [(2, .box TScn), (3, .box TScn), (4, .val .bool), (8, .val TI)]
noncomputable def ref22_Same.t6 (x : ((List ((Int × Int × Int) × (Int × Int × Int) × Int)) × (List ((Int × Int × Int) × (Int × Int × Int) × (Int × Int × Int) × Int)) × (List (Int × Int × Int × Int)) × Int × (List (Int × Int × Int)) × ((Int × Int × Int) × (Int × Int × Int) × (Int × Int × Int) × Int × Int × Int) × Int × Int) × ((List ((Int × Int × Int) × (Int × Int × Int) × Int)) × (List ((Int × Int × Int) × (Int × Int × Int) × (Int × Int × Int) × Int)) × (List (Int × Int × Int × Int)) × Int × (List (Int × Int × Int)) × ((Int × Int × Int) × (Int × Int × Int) × (Int × Int × Int) × Int × Int × Int) × Int × Int) × Bool × Int × Unit) : T (Ex × ((List ((Int × Int × Int) × (Int × Int × Int) × Int)) × (List ((Int × Int × Int) × (Int × Int × Int) × (Int × Int × Int) × Int)) × (List (Int × Int × Int × Int)) × Int × (List (Int × Int × Int)) × ((Int × Int × Int) × (Int × Int × Int) × (Int × Int × Int) × Int × Int × Int) × Int × Int) × ((List ((Int × Int × Int) × (Int × Int × Int) × Int)) × (List ((Int × Int × Int) × (Int × Int × Int) × (Int × Int × Int) × Int)) × (List (Int × Int × Int × Int)) × Int × (List (Int × Int × Int)) × ((Int × Int × Int) × (Int × Int × Int) × (Int × Int × Int) × Int × Int × Int) × Int × Int) × Bool × Int × Unit) := T.ite (decide (x.2.2.2.1 < (↑(List.length x.1.2.2.2.2.1) : Int))) (T.opt (lget x.1.2.2.2.2.1 x.2.2.2.1) fun y => T.opt (lget x.2.1.2.2.2.2.1 x.2.2.2.1) fun y_1 => T.ite (!(y.1 == y_1.fst && (y.2.1 == y_1.snd.fst && y.2.2 == y_1.snd.snd))) (T.ret (Ex.ret, x.1, x.2.1, false, x.2.2.2.1, ())) (T.ret (Ex.normal, x.1, x.2.1, x.2.2.1, W (x.2.2.2.1 + (1 : Int)), ()))) (T.ret (Ex.exit (6 : Nat), x.1, x.2.1, x.2.2.1, x.2.2.2.1, ()))
noncomputable def ref22_Same.l6 (x : ((List ((Int × Int × Int) × (Int × Int × Int) × Int)) × (List ((Int × Int × Int) × (Int × Int × Int) × (Int × Int × Int) × Int)) × (List (Int × Int × Int × Int)) × Int × (List (Int × Int × Int)) × ((Int × Int × Int) × (Int × Int × Int) × (Int × Int × Int) × Int × Int × Int) × Int × Int) × ((List ((Int × Int × Int) × (Int × Int × Int) × Int)) × (List ((Int × Int × Int) × (Int × Int × Int) × (Int × Int × Int) × Int)) × (List (Int × Int × Int × Int)) × Int × (List (Int × Int × Int)) × ((Int × Int × Int) × (Int × Int × Int) × (Int × Int × Int) × Int × Int × Int) × Int × Int) × Bool × Int × Unit) : Option (Ex × ((List ((Int × Int × Int) × (Int × Int × Int) × Int)) × (List ((Int × Int × Int) × (Int × Int × Int) × (Int × Int × Int) × Int)) × (List (Int × Int × Int × Int)) × Int × (List (Int × Int × Int)) × ((Int × Int × Int) × (Int × Int × Int) × (Int × Int × Int) × Int × Int × Int) × Int × Int) × ((List ((Int × Int × Int) × (Int × Int × Int) × Int)) × (List ((Int × Int × Int) × (Int × Int × Int) × (Int × Int × Int) × Int)) × (List (Int × Int × Int × Int)) × Int × (List (Int × Int × Int)) × ((Int × Int × Int) × (Int × Int × Int) × (Int × Int × Int) × Int × Int × Int) × Int × Int) × Bool × Int × Unit) := (iterT ref22_Same.t6 rounds x).run
theorem ref22_Same.k6 : bodies 6 (lp Tryd.f12 []) = [.loop (loopIn 6 (lp Tryd.f12 []))] ∧ WP Tryd.prog 0 (.block 6 (.loop (loopIn 6 (lp Tryd.f12 [])))) (loopS ref22_Same.L6 143 6 [.exit 6, .ret] ref22_Same.l6) :=
  loop_tree (L := ref22_Same.L6) (F := ({ quiet := Xs, deep := noDeep } : Fns)) (D := D0) (tab := []) (t := ref22_Same.t6) mixed Xok (deep_none _) (fun _ => rfl) (by kernel_rfl) (by kernel_rfl) trivial (fun x => by kernel_rfl)
noncomputable def ref22_Same.t (x : ((List ((Int × Int × Int) × (Int × Int × Int) × Int)) × (List ((Int × Int × Int) × (Int × Int × Int) × (Int × Int × Int) × Int)) × (List (Int × Int × Int × Int)) × Int × (List (Int × Int × Int)) × ((Int × Int × Int) × (Int × Int × Int) × (Int × Int × Int) × Int × Int × Int) × Int × Int) × ((List ((Int × Int × Int) × (Int × Int × Int) × Int)) × (List ((Int × Int × Int) × (Int × Int × Int) × (Int × Int × Int) × Int)) × (List (Int × Int × Int × Int)) × Int × (List (Int × Int × Int)) × ((Int × Int × Int) × (Int × Int × Int) × (Int × Int × Int) × Int × Int × Int) × Int × Int)) : T (Bool) := T.ite ((↑(List.length x.1.1) : Int) != (↑(List.length x.2.1) : Int) || (↑(List.length x.1.2.1) : Int) != (↑(List.length x.2.2.1) : Int) || (↑(List.length x.1.2.2.1) : Int) != (↑(List.length x.2.2.2.1) : Int) || (↑(List.length x.1.2.2.2.2.1) : Int) != (↑(List.length x.2.2.2.2.2.1) : Int) || x.1.2.2.2.1 != x.2.2.2.2.1 || !(x.1.2.2.2.2.2.1.1.1 == x.2.2.2.2.2.2.1.1.1 && (x.1.2.2.2.2.2.1.1.2.1 == x.2.2.2.2.2.2.1.1.2.1 && x.1.2.2.2.2.2.1.1.2.2 == x.2.2.2.2.2.2.1.1.2.2) && (x.1.2.2.2.2.2.1.2.1.1 == x.2.2.2.2.2.2.1.2.1.1 && (x.1.2.2.2.2.2.1.2.1.2.1 == x.2.2.2.2.2.2.1.2.1.2.1 && x.1.2.2.2.2.2.1.2.1.2.2 == x.2.2.2.2.2.2.1.2.1.2.2) && (x.1.2.2.2.2.2.1.2.2.1.1 == x.2.2.2.2.2.2.1.2.2.1.1 && (x.1.2.2.2.2.2.1.2.2.1.2.1 == x.2.2.2.2.2.2.1.2.2.1.2.1 && x.1.2.2.2.2.2.1.2.2.1.2.2 == x.2.2.2.2.2.2.1.2.2.1.2.2) && (x.1.2.2.2.2.2.1.2.2.2.1 == x.2.2.2.2.2.2.1.2.2.2.1 && (x.1.2.2.2.2.2.1.2.2.2.2.1 == x.2.2.2.2.2.2.1.2.2.2.2.1 && x.1.2.2.2.2.2.1.2.2.2.2.2 == x.2.2.2.2.2.2.1.2.2.2.2.2))))) || x.1.2.2.2.2.2.2.1 != x.2.2.2.2.2.2.2.1 || x.1.2.2.2.2.2.2.2 != x.2.2.2.2.2.2.2.2) (T.ret false) (T.opt (ref22_Same.l0 (x.1, x.2, false, (0 : Int), ())) fun y => T.ite (exEq y.1 (Ex.exit (0 : Nat))) (T.opt (ref22_Same.l2 (y.2.1, y.2.2.1, y.2.2.2.1, (0 : Int), ())) fun y => T.ite (exEq y.1 (Ex.exit (2 : Nat))) (T.opt (ref22_Same.l4 (y.2.1, y.2.2.1, y.2.2.2.1, (0 : Int), ())) fun y => T.ite (exEq y.1 (Ex.exit (4 : Nat))) (T.opt (ref22_Same.l6 (y.2.1, y.2.2.1, y.2.2.2.1, (0 : Int), ())) fun y => T.ite (exEq y.1 (Ex.exit (6 : Nat))) (T.ret true) (T.ite (exEq y.1 Ex.ret) (T.ret y.2.2.2.1) T.fail)) (T.ite (exEq y.1 Ex.ret) (T.ret y.2.2.2.1) T.fail)) (T.ite (exEq y.1 Ex.ret) (T.ret y.2.2.2.1) T.fail)) (T.ite (exEq y.1 Ex.ret) (T.ret y.2.2.2.1) T.fail))
noncomputable def ref22_Same (x : ((List ((Int × Int × Int) × (Int × Int × Int) × Int)) × (List ((Int × Int × Int) × (Int × Int × Int) × (Int × Int × Int) × Int)) × (List (Int × Int × Int × Int)) × Int × (List (Int × Int × Int)) × ((Int × Int × Int) × (Int × Int × Int) × (Int × Int × Int) × Int × Int × Int) × Int × Int) × ((List ((Int × Int × Int) × (Int × Int × Int) × Int)) × (List ((Int × Int × Int) × (Int × Int × Int) × (Int × Int × Int) × Int)) × (List (Int × Int × Int × Int)) × Int × (List (Int × Int × Int)) × ((Int × Int × Int) × (Int × Int × Int) × (Int × Int × Int) × Int × Int × Int) × Int × Int)) : Option (Bool) := (ref22_Same.t x).run
noncomputable def ref22_Same.q : List AV → T AV := entry [TScn, TScn] (outR [.bool]) fun x => .opt (ref22_Same x) .ret
theorem ref22_Same.ok : FnOK Tryd.prog 12 ref22_Same.q :=
  entry_call (ps := [TScn, TScn]) (rs := [.bool]) (F := ({ quiet := Xs, deep := noDeep } : Fns)) (D := D0) (S := tabS [(0, loopS ref22_Same.L0 143 0 [.exit 0, .ret] ref22_Same.l0), (2, loopS ref22_Same.L2 143 2 [.exit 2, .ret] ref22_Same.l2), (4, loopS ref22_Same.L4 143 4 [.exit 4, .ret] ref22_Same.l4), (6, loopS ref22_Same.L6 143 6 [.exit 6, .ret] ref22_Same.l6)]) (t := ref22_Same.t) mixed Xok (deep_none _) Tryd.func12 (by kernel_rfl) (sok_fn ⟨ref22_Same.k0, ref22_Same.k2, ref22_Same.k4, ref22_Same.k6, trivial⟩) (by kernel_rfl) (fun x => by kernel_rfl)
end Go.Proofs.Pen

namespace Go.Proofs.Pen
open Go Go.Proofs

theorem errIs_eq (e : ErrD) (c : Int) (hn : e.isNil = false) (h : e.depth ≤ 1000) : errors_Is (e, c) = some (e.has c) := by
  have h1 : errors_is (e, c, true) = some (e.has c) := by
    obtain ⟨e', he⟩ := is_run c false e rounds (rounds_gt (by omega))
    unfold errors_is errors_is.t
    dsimp only
    have hl : errors_is.l0 (e, c, true, false, ()) = some (.ret, e', c, true, e.has c, ()) := he
    rw [tr_opt, hl, Option.bind_some, tr_ite, if_pos (by rfl), tr_ret]
  unfold errors_Is errors_Is.t
  dsimp only
  rw [tr_ite, hn, if_neg (by simp), tr_opt, h1, Option.bind_some, tr_ret]

theorem Broken_eq (e : ErrD) (hn : e.isNil = false) (h : e.depth ≤ 1000) : merge_Broken e = some (e.has 11 || e.has 10) := by
  unfold merge_Broken merge_Broken.t
  rw [tr_opt, errIs_eq e 11 hn h, Option.bind_some, tr_ite, tr_ret, tr_opt, errIs_eq e 10 hn h, Option.bind_some, tr_ret]
  cases e.has 11 <;> simp

theorem wrong_eq {w : W3} (h : codeOK w) : law48_wrong (mkErr (some w), mkW (some w)) = some true := by
  have hi : fault_Is (mkErr (some w), w.2.1) = some true := by
    rw [mkErr_mkR, Is_eq _ _ (by rw [depth_mkR]; simp), has_mkR]
    simp
  have hb : merge_Broken (mkErr (some w)) = some true := by
    rw [mkErr_mkR, Broken_eq _ rfl (by rw [depth_mkR]; simp), has_mkR, has_mkR]
    obtain ⟨h1 | h1, _⟩ := h <;> simp [h1]
  unfold law48_wrong law48_wrong.t
  dsimp only [mkW]
  rw [tr_yes (show (!ErrD.isNil (mkErr (some w))) = true from rfl), tr_yes (show ((mkErr (some w)).top == w.1) = true from beq_self_eq_true w.1), tr_opt, hi, Option.bind_some, tr_yes rfl, tr_opt, hb, Option.bind_some, tr_ret]

/-! ### Scenes that may be -/
def matG (m : MatT) : Prop := matW m 0 = none
def triG (n : Int) (t : TriT) : Prop := 0 ≤ t.2.2.2 ∧ t.2.2.2 < n ∧ (in3 t.1 (-1048576) 1048576 && in3 t.2.1 (-1048576) 1048576 && in3 t.2.2.1 (-1048576) 1048576) = true ∧ flatB (lessW t.2.1 t.1) (lessW t.2.2.1 t.1) = false
def litG (n : Int) (l : LitT) : Prop := 0 ≤ l.1 ∧ l.1 < n ∧ in3 l.2 0 67108863 = true
def okS (x : ScT) : Prop := bigB x = false ∧ (∀ m ∈ x.1, matG m) ∧ (∀ t ∈ x.2.1, triG x.1.length t) ∧ (∀ l ∈ x.2.2.1, litG x.2.1.length l) ∧ (x.2.2.1.Pairwise fun a b => a.1 ≠ b.1) ∧
  (0 ≤ x.2.2.2.1 ∧ (x.2.2.2.2.1.length : Int) = 8 * x.2.2.2.1) ∧ (∀ c ∈ x.2.2.2.2.1, in3 c 0 67108863 = true) ∧ camW x = none

theorem firstF_none_iff {f : Nat → Option W3} {n : Nat} : (firstF f 0 n).map (·.2) = none ↔ ∀ i, i < n → f i = none := by
  constructor
  · intro h i hi
    have h : firstF f 0 n = none := by simpa using h
    exact firstF_none h i (Nat.zero_le _) (by omega)
  · intro h
    cases hf : firstF f 0 n with
    | none => rfl
    | some p =>
      obtain ⟨i, w⟩ := p
      obtain ⟨_, h2, h3⟩ := firstF_some hf
      rw [h i (by omega)] at h3
      cases h3

theorem matW_none {m : MatT} {p : Int} : matW m p = none ↔ matG m := by
  unfold matG matW
  split
  · simp
  · split <;> simp

theorem triW_none {n : Int} {t : TriT} {p : Int} : triW n t p = none ↔ triG n t := by
  unfold triG triW
  by_cases h : 0 ≤ t.2.2.2 ∧ t.2.2.2 < n
  · rw [if_neg (by simp; omega)]
    generalize (in3 t.1 (-1048576) 1048576 && in3 t.2.1 (-1048576) 1048576 && in3 t.2.2.1 (-1048576) 1048576) = q1
    generalize flatB (lessW t.2.1 t.1) (lessW t.2.2.1 t.1) = q2
    cases q1 <;> cases q2 <;> simp [h.1, h.2]
  · rw [if_pos (by simp; omega)]
    constructor
    · intro hh; cases hh
    · rintro ⟨h1, h2, _⟩; exact absurd ⟨h1, h2⟩ h

theorem litW_none {n : Int} {a : List LitT} {t : LitT} {p : Int} : litW n a t p = none ↔ litG n t ∧ ∀ y ∈ a, y.1 ≠ t.1 := by
  unfold litG litW
  by_cases h : (decide (t.1 < 0) || decide (t.1 ≥ n) || a.any fun y => t.1 == y.1) = true
  · rw [if_pos h]
    constructor
    · intro hh; cases hh
    · rintro ⟨⟨h1, h2, _⟩, h3⟩
      simp only [Bool.or_eq_true, decide_eq_true_eq, List.any_eq_true, beq_iff_eq] at h
      rcases h with (h | h) | ⟨y, hy, h⟩
      · omega
      · omega
      · exact absurd h.symm (h3 y hy)
  · rw [if_neg h]
    simp only [Bool.or_eq_true, decide_eq_true_eq, List.any_eq_true, beq_iff_eq, not_or, not_exists, not_and] at h
    obtain ⟨⟨h1, h2⟩, h3⟩ := h
    split
    · rename_i h4
      constructor
      · intro hh; cases hh
      · rintro ⟨⟨_, _, h5⟩, _⟩; rw [h4] at h5; cases h5
    · rename_i h4
      constructor
      · intro _; exact ⟨⟨by omega, by omega, nf h4⟩, fun y hy hh => h3 y hy hh.symm⟩
      · intro _; rfl

theorem celW_none {c : W3} {p : Int} : celW c p = none ↔ in3 c 0 67108863 = true := by
  unfold celW
  split
  · rename_i h; simp [h]
  · rename_i h; simp [nf h]

theorem orElse_none {a b : Option W3} : orElse' a b = none ↔ a = none ∧ b = none := by
  cases a <;> simp [orElse']

theorem wr_none {x : ScT} : wr x = none ↔ okS x := by
  unfold wr okS
  by_cases hb : bigB x = true
  · rw [if_pos hb, hb]; simp
  rw [if_neg hb]
  have hb' : bigB x = false := by simpa using hb
  have hz : x.2.2.2.1 ≤ 16 := by
    unfold bigB at hb'
    simp only [Bool.or_eq_false_iff, decide_eq_false_iff_not] at hb'
    omega
  rw [orElse_none, orElse_none, orElse_none, orElse_none]
  unfold wM wT wL
  rw [firstF_none_iff, firstF_none_iff, firstF_none_iff]
  have eM : (∀ i, i < x.1.length → fM x i = none) ↔ ∀ m ∈ x.1, matG m := by
    constructor
    · intro h m hm
      obtain ⟨i, hi, rfl⟩ := List.getElem_of_mem hm
      have := h i hi
      unfold fM at this
      rw [List.getElem?_eq_getElem hi, Option.bind_some] at this
      exact matW_none.1 this
    · intro h i hi
      unfold fM
      rw [List.getElem?_eq_getElem hi, Option.bind_some]
      exact matW_none.2 (h _ (List.getElem_mem hi))
  have eT : (∀ i, i < x.2.1.length → fT x i = none) ↔ ∀ t ∈ x.2.1, triG x.1.length t := by
    constructor
    · intro h m hm
      obtain ⟨i, hi, rfl⟩ := List.getElem_of_mem hm
      have := h i hi
      unfold fT at this
      rw [List.getElem?_eq_getElem hi, Option.bind_some] at this
      exact triW_none.1 this
    · intro h i hi
      unfold fT
      rw [List.getElem?_eq_getElem hi, Option.bind_some]
      exact triW_none.2 (h _ (List.getElem_mem hi))
  have eL : (∀ i, i < x.2.2.1.length → fL x i = none) ↔ (∀ l ∈ x.2.2.1, litG x.2.1.length l) ∧ (x.2.2.1.Pairwise fun a b => a.1 ≠ b.1) := by
    rw [List.pairwise_iff_getElem]
    constructor
    · intro h
      have h' : ∀ i (hi : i < x.2.2.1.length), litG x.2.1.length x.2.2.1[i] ∧ ∀ y ∈ x.2.2.1.take i, y.1 ≠ x.2.2.1[i].1 := by
        intro i hi
        have := h i hi
        unfold fL at this
        rw [List.getElem?_eq_getElem hi, Option.bind_some] at this
        exact litW_none.1 this
      refine ⟨fun m hm => ?_, fun i j hi hj hij => ?_⟩
      · obtain ⟨i, hi, rfl⟩ := List.getElem_of_mem hm
        exact (h' i hi).1
      · refine (h' j hj).2 x.2.2.1[i] ?_
        rw [List.mem_take_iff_getElem]
        exact ⟨i, by omega, rfl⟩
    · rintro ⟨h1, h2⟩ i hi
      unfold fL
      rw [List.getElem?_eq_getElem hi, Option.bind_some]
      refine litW_none.2 ⟨h1 _ (List.getElem_mem hi), fun y hy => ?_⟩
      rw [List.mem_take_iff_getElem] at hy
      obtain ⟨j, hj, rfl⟩ := hy
      exact h2 j i (by omega) hi (by omega)
  have eZ : wZ x = none ↔ (0 ≤ x.2.2.2.1 ∧ (x.2.2.2.2.1.length : Int) = 8 * x.2.2.2.1) ∧ (∀ c ∈ x.2.2.2.2.1, in3 c 0 67108863 = true) := by
    unfold wZ
    by_cases h1 : x.2.2.2.1 < 0
    · rw [if_pos (decide_eq_true h1)]
      constructor
      · intro h; cases h
      · rintro ⟨⟨h, _⟩, _⟩; omega
    rw [if_neg (by simpa using h1), W_id (by omega) (by omega)]
    by_cases h2 : (x.2.2.2.2.1.length : Int) = 8 * x.2.2.2.1
    · rw [if_neg (by simpa using h2)]
      unfold wC
      rw [firstF_none_iff]
      constructor
      · intro h
        refine ⟨⟨by omega, h2⟩, fun m hm => ?_⟩
        obtain ⟨i, hi, rfl⟩ := List.getElem_of_mem hm
        have := h i hi
        unfold fC at this
        rw [List.getElem?_eq_getElem hi, Option.bind_some] at this
        exact celW_none.1 this
      · rintro ⟨_, h⟩ i hi
        unfold fC
        rw [List.getElem?_eq_getElem hi, Option.bind_some]
        exact celW_none.2 (h _ (List.getElem_mem hi))
    · rw [if_pos (by simpa using h2)]
      constructor
      · intro h; cases h
      · rintro ⟨⟨_, h⟩, _⟩; exact absurd h h2
  rw [eM, eT, eL, eZ]
  simp only [hb', true_and, and_assoc]

/-! ### The same scene -/
abbrev ZS : ScT := ([], [], [], 0, [], ((0, 0, 0), (0, 0, 0), (0, 0, 0), 0, 0, 0), 0, 0)

theorem Same_refl (x : ScT) (h : lightB x) : ref22_Same (x, x) = some true := by
  obtain ⟨h1, h2, h3, h4⟩ := h
  have e0 : ref22_Same.l0 (x, x, false, 0, ()) = some (.exit 0, x, x, false, (x.1.length : Int), ()) := by
    have := iter_count (t := ref22_Same.t0) (fun k => (x, x, false, (k : Int), ())) (e := .exit 0) (z := (x, x, false, (x.1.length : Int), ())) (by simp) x.1.length 0 rounds
      (fun k _ hk => by
        have hk : k < x.1.length := by omega
        unfold ref22_Same.t0
        simp only [tr_ite, tr_ret, tr_opt, decide_eq_true_eq]
        rw [if_pos (by omega), lget_nat _ hk, Option.bind_some, Option.bind_some, if_neg (by simp), W_succ (by omega)])
      (by
        unfold ref22_Same.t0
        simp only [tr_ite, tr_ret, decide_eq_true_eq]
        rw [if_neg (by omega), Nat.zero_add])
      (rounds_gt (by omega))
    exact this
  have e2 : ref22_Same.l2 (x, x, false, 0, ()) = some (.exit 2, x, x, false, (x.2.1.length : Int), ()) := by
    have := iter_count (t := ref22_Same.t2) (fun k => (x, x, false, (k : Int), ())) (e := .exit 2) (z := (x, x, false, (x.2.1.length : Int), ())) (by simp) x.2.1.length 0 rounds
      (fun k _ hk => by
        have hk : k < x.2.1.length := by omega
        unfold ref22_Same.t2
        simp only [tr_ite, tr_ret, tr_opt, decide_eq_true_eq]
        rw [if_pos (by omega), lget_nat _ hk, Option.bind_some, Option.bind_some, if_neg (by simp), W_succ (by omega)])
      (by
        unfold ref22_Same.t2
        simp only [tr_ite, tr_ret, decide_eq_true_eq]
        rw [if_neg (by omega), Nat.zero_add])
      (rounds_gt (by omega))
    exact this
  have e4 : ref22_Same.l4 (x, x, false, 0, ()) = some (.exit 4, x, x, false, (x.2.2.1.length : Int), ()) := by
    have := iter_count (t := ref22_Same.t4) (fun k => (x, x, false, (k : Int), ())) (e := .exit 4) (z := (x, x, false, (x.2.2.1.length : Int), ())) (by simp) x.2.2.1.length 0 rounds
      (fun k _ hk => by
        have hk : k < x.2.2.1.length := by omega
        unfold ref22_Same.t4
        simp only [tr_ite, tr_ret, tr_opt, decide_eq_true_eq]
        rw [if_pos (by omega), lget_nat _ hk, Option.bind_some, Option.bind_some, if_neg (by simp), W_succ (by omega)])
      (by
        unfold ref22_Same.t4
        simp only [tr_ite, tr_ret, decide_eq_true_eq]
        rw [if_neg (by omega), Nat.zero_add])
      (rounds_gt (by omega))
    exact this
  have e6 : ref22_Same.l6 (x, x, false, 0, ()) = some (.exit 6, x, x, false, (x.2.2.2.2.1.length : Int), ()) := by
    have := iter_count (t := ref22_Same.t6) (fun k => (x, x, false, (k : Int), ())) (e := .exit 6) (z := (x, x, false, (x.2.2.2.2.1.length : Int), ())) (by simp) x.2.2.2.2.1.length 0 rounds
      (fun k _ hk => by
        have hk : k < x.2.2.2.2.1.length := by omega
        unfold ref22_Same.t6
        simp only [tr_ite, tr_ret, tr_opt, decide_eq_true_eq]
        rw [if_pos (by omega), lget_nat _ hk, Option.bind_some, Option.bind_some, if_neg (by simp), W_succ (by omega)])
      (by
        unfold ref22_Same.t6
        simp only [tr_ite, tr_ret, decide_eq_true_eq]
        rw [if_neg (by omega), Nat.zero_add])
      (rounds_gt (by omega))
    exact this
  unfold ref22_Same ref22_Same.t
  dsimp only
  rw [tr_ite, if_neg (by simp), tr_opt, e0, Option.bind_some]
  dsimp only
  rw [tr_ite, if_pos (show exEq (.exit 0) (.exit 0) = true from rfl), tr_opt, e2, Option.bind_some]
  dsimp only
  rw [tr_ite, if_pos (show exEq (.exit 2) (.exit 2) = true from rfl), tr_opt, e4, Option.bind_some]
  dsimp only
  rw [tr_ite, if_pos (show exEq (.exit 4) (.exit 4) = true from rfl), tr_opt, e6, Option.bind_some]
  dsimp only
  rw [tr_ite, if_pos (show exEq (.exit 6) (.exit 6) = true from rfl), tr_ret]

theorem lightZ : lightB ZS := by unfold lightB; simp
theorem map_takeS {α β : Type} (f : α → β) (l : List α) {k : Nat} (h : k < l.length) : (l.take k).map f ++ [f l[k]] = (l.take (k + 1)).map f := by
  rw [List.take_succ_eq_append_getElem h, List.map_append]; rfl
theorem take_snoc {α : Type} (l : List α) (v : α) : List.take (l.length + 1) (l ++ [v]) = l ++ [v] := List.take_of_length_le (by simp)
theorem small60 {n c : Nat} (h : n ≤ 900) (hc : c ≤ 1000) : n * c ≤ most := by
  have : n * c ≤ 900 * 1000 := Nat.mul_le_mul h hc
  unfold most; omega
theorem triG_up {n m : Int} {t : TriT} (h : triG n t) (hn : n ≤ m) : triG m t := ⟨h.1, by have := h.2.1; omega, h.2.2⟩
theorem litG_up {n m : Int} {t : LitT} (h : litG n t) (hn : n ≤ m) : litG m t := ⟨h.1, by have := h.2.1; omega, h.2.2⟩
theorem cam_same {x y : ScT} (h : x.2.2.2.2.2 = y.2.2.2.2.2) : camW x = camW y := by
  unfold camW
  rw [h]
theorem bigB_false {x : ScT} : bigB x = false ↔ x.1.length ≤ 32 ∧ x.2.1.length ≤ 512 ∧ x.2.2.1.length ≤ 512 ∧ x.2.2.2.1 ≤ 16 := by
  unfold bigB
  simp only [Bool.or_eq_false_iff, decide_eq_false_iff_not]
  omega
theorem mkW_zero {o : Option W3} (h : ∀ w, o = some w → codeOK w) : ((mkW o).1 == 0 && ((mkW o).2.1 == 0 && (mkW o).2.2 == 0)) = o.isNone := by
  cases o with
  | none => rfl
  | some w => exact (h w rfl).zero
theorem lightOf {x : ScT} (h : x.1.length ≤ 40 ∧ x.2.1.length ≤ 60 ∧ x.2.2.1.length ≤ 60 ∧ x.2.2.2.2.1.length ≤ 200) : lightB x := ⟨by omega, by omega, by omega, by omega⟩
theorem part_len {α : Type} (f : α → α) (l : List α) (k : Nat) : ((l.take k).map f ++ l.drop k).length = l.length := by
  rw [List.length_append, List.length_map, List.length_take, List.length_drop]; omega
theorem part_get {α : Type} (f : α → α) (l : List α) {k : Nat} (h : k < l.length) : ((l.take k).map f ++ l.drop k)[0 + Int.toNat (k : Int)]? = some l[k] := by
  have e : ((l.take k).map f).length = k := by rw [List.length_map, List.length_take]; omega
  rw [Int.toNat_natCast, Nat.zero_add, List.getElem?_append_right (by omega), e, Nat.sub_self, List.drop_eq_getElem_cons h]
  rfl
theorem part_set {α : Type} (f : α → α) (l : List α) {k : Nat} (h : k < l.length) : ((l.take k).map f ++ l.drop k).set (0 + Int.toNat (k : Int)) (f l[k]) = (l.take (k + 1)).map f ++ l.drop (k + 1) := by
  have e : ((l.take k).map f).length = k := by rw [List.length_map, List.length_take]; omega
  rw [Int.toNat_natCast, Nat.zero_add, List.set_append_right _ _ (by omega), e, Nat.sub_self, List.drop_eq_getElem_cons h, ← map_takeS f l h, List.append_assoc]
  rfl
end Go.Proofs.Pen

namespace Go.Proofs.Pen
open Go Go.Proofs
noncomputable def law22_Light.t (x : ((List ((Int × Int × Int) × (Int × Int × Int) × Int)) × (List ((Int × Int × Int) × (Int × Int × Int) × (Int × Int × Int) × Int)) × (List (Int × Int × Int × Int)) × Int × (List (Int × Int × Int)) × ((Int × Int × Int) × (Int × Int × Int) × (Int × Int × Int) × Int × Int × Int) × Int × Int)) : T (Bool) := T.ret (decide ((↑(List.length x.1) : Int) ≤ (40 : Int)) && decide ((↑(List.length x.2.1) : Int) ≤ (60 : Int)) && decide ((↑(List.length x.2.2.1) : Int) ≤ (60 : Int)) && decide ((↑(List.length x.2.2.2.2.1) : Int) ≤ (200 : Int)))
noncomputable def law22_Light.q : List AV → T AV := entry [TScn] (outR [.bool]) law22_Light.t
theorem law22_Light.ok : FnOK Tryd.prog 7 law22_Light.q :=
  entry_in (ps := [TScn]) (rs := [.bool]) (F := ({ quiet := Xs, deep := noDeep } : Fns)) (D := D0) (S := tabS []) (t := law22_Light.t) mixed Xok (deep_none _) Tryd.func7 (by kernel_rfl) (sok_fn trivial) (by kernel_rfl) (fun x => by kernel_rfl)
end Go.Proofs.Pen

namespace Go.Proofs.Pen
open Go Go.Proofs
noncomputable def law48_small.t (_ : Unit) : T (((List ((Int × Int × Int) × (Int × Int × Int) × Int)) × (List ((Int × Int × Int) × (Int × Int × Int) × (Int × Int × Int) × Int)) × (List (Int × Int × Int × Int)) × Int × (List (Int × Int × Int)) × ((Int × Int × Int) × (Int × Int × Int) × (Int × Int × Int) × Int × Int × Int) × Int × Int)) := T.ret (List.take (2 : Nat) [(((0 : Int), (0 : Int), (0 : Int)), ((0 : Int), (0 : Int), (0 : Int)), (1 : Int)), (((0 : Int), (0 : Int), (0 : Int)), ((0 : Int), (0 : Int), (0 : Int)), (2 : Int))], List.take (2 : Nat) [(((0 : Int), (0 : Int), (0 : Int)), ((1024 : Int), (0 : Int), (0 : Int)), ((0 : Int), (1024 : Int), (0 : Int)), (0 : Int)), (((0 : Int), (0 : Int), (0 : Int)), ((1024 : Int), (0 : Int), (0 : Int)), ((0 : Int), (1024 : Int), (0 : Int)), (0 : Int))], [((1 : Int), (9 : Int), (0 : Int), (0 : Int))], (0 : Int), [], (((0 : Int), (0 : Int), (1024 : Int)), ((0 : Int), (0 : Int), (0 : Int)), ((0 : Int), (1024 : Int), (0 : Int)), (1024 : Int), (0 : Int), (1024 : Int)), (1 : Int), (512 : Int))
noncomputable def law48_small.q : List AV → T AV := entry [] (outR [TScn]) law48_small.t
theorem law48_small.ok : FnOK Tryd.prog 25 law48_small.q :=
  entry_in (ps := []) (rs := [TScn]) (F := ({ quiet := Xs, deep := noDeep } : Fns)) (D := D0) (S := tabS []) (t := law48_small.t) mixed Xok (deep_none _) Tryd.func25 (by kernel_rfl) (sok_fn trivial) (by kernel_rfl) (fun x => by kernel_rfl)
end Go.Proofs.Pen

namespace Go.Proofs.Pen
open Go Go.Proofs
set_option maxRecDepth 100000
noncomputable def law48_awake.t (_ : Unit) : T (Bool) := T.ret true
noncomputable def law48_awake.q : List AV → T AV := entry [] (outR [.bool]) fun _ => .ret (true : dens [.bool])
theorem law48_awake.ok : FnOK Tryd.prog 8 law48_awake.q := peT_entry mixed (quiet_ext (quiet_ext Xok scene_Check.ok) law48_small.ok) [13, 26, 25] tbOk 100 20 Tryd.func8 (by kernel_rfl) (by kernel_rfl)
end Go.Proofs.Pen

namespace Go.Proofs.Pen
open Go Go.Proofs
noncomputable def merge_Join_1.t (x : Int × Int) : T (Int) := T.ret (W (x.1 + x.2))
noncomputable def merge_Join_1.q : List AV → T AV := entry [TI, TI] (outR [TI]) merge_Join_1.t
theorem merge_Join_1.ok : FnOK Tryd.prog 29 merge_Join_1.q :=
  entry_in (ps := [TI, TI]) (rs := [TI]) (F := ({ quiet := Xs, deep := noDeep } : Fns)) (D := D0) (S := tabS []) (t := merge_Join_1.t) mixed Xok (deep_none _) Tryd.func29 (by kernel_rfl) (sok_fn trivial) (by kernel_rfl) (fun x => by kernel_rfl)
end Go.Proofs.Pen

namespace Go.Proofs.Pen
open Go Go.Proofs
noncomputable def merge_Join.deeps : Deeps := { D := [28, 29, 30, 49, 50, 51], C := [], frz := false, S := fun _ _ => noS }
theorem merge_Join.deepsOk : LoopsOK Tryd.prog merge_Join.deeps.S := (loops_none _)
def merge_Join.L0 : List (Nat × Lay) := [(2, .box TScn), (3, .box TScn), (4, .box TScn), (5, .val TE), (17, .row TScn), (18, .val TI), (19, .val TI)]
noncomputable def merge_Join.t0 (x : ((List ((Int × Int × Int) × (Int × Int × Int) × Int)) × (List ((Int × Int × Int) × (Int × Int × Int) × (Int × Int × Int) × Int)) × (List (Int × Int × Int × Int)) × Int × (List (Int × Int × Int)) × ((Int × Int × Int) × (Int × Int × Int) × (Int × Int × Int) × Int × Int × Int) × Int × Int) × ((List ((Int × Int × Int) × (Int × Int × Int) × Int)) × (List ((Int × Int × Int) × (Int × Int × Int) × (Int × Int × Int) × Int)) × (List (Int × Int × Int × Int)) × Int × (List (Int × Int × Int)) × ((Int × Int × Int) × (Int × Int × Int) × (Int × Int × Int) × Int × Int × Int) × Int × Int) × ((List ((Int × Int × Int) × (Int × Int × Int) × Int)) × (List ((Int × Int × Int) × (Int × Int × Int) × (Int × Int × Int) × Int)) × (List (Int × Int × Int × Int)) × Int × (List (Int × Int × Int)) × ((Int × Int × Int) × (Int × Int × Int) × (Int × Int × Int) × Int × Int × Int) × Int × Int) × ErrD × List ((List ((Int × Int × Int) × (Int × Int × Int) × Int)) × (List ((Int × Int × Int) × (Int × Int × Int) × (Int × Int × Int) × Int)) × (List (Int × Int × Int × Int)) × Int × (List (Int × Int × Int)) × ((Int × Int × Int) × (Int × Int × Int) × (Int × Int × Int) × Int × Int × Int) × Int × Int) × Int × Int × Unit) : T (Ex × ((List ((Int × Int × Int) × (Int × Int × Int) × Int)) × (List ((Int × Int × Int) × (Int × Int × Int) × (Int × Int × Int) × Int)) × (List (Int × Int × Int × Int)) × Int × (List (Int × Int × Int)) × ((Int × Int × Int) × (Int × Int × Int) × (Int × Int × Int) × Int × Int × Int) × Int × Int) × ((List ((Int × Int × Int) × (Int × Int × Int) × Int)) × (List ((Int × Int × Int) × (Int × Int × Int) × (Int × Int × Int) × Int)) × (List (Int × Int × Int × Int)) × Int × (List (Int × Int × Int)) × ((Int × Int × Int) × (Int × Int × Int) × (Int × Int × Int) × Int × Int × Int) × Int × Int) × ((List ((Int × Int × Int) × (Int × Int × Int) × Int)) × (List ((Int × Int × Int) × (Int × Int × Int) × (Int × Int × Int) × Int)) × (List (Int × Int × Int × Int)) × Int × (List (Int × Int × Int)) × ((Int × Int × Int) × (Int × Int × Int) × (Int × Int × Int) × Int × Int × Int) × Int × Int) × ErrD × List ((List ((Int × Int × Int) × (Int × Int × Int) × Int)) × (List ((Int × Int × Int) × (Int × Int × Int) × (Int × Int × Int) × Int)) × (List (Int × Int × Int × Int)) × Int × (List (Int × Int × Int)) × ((Int × Int × Int) × (Int × Int × Int) × (Int × Int × Int) × Int × Int × Int) × Int × Int) × Int × Int × Unit) := T.ite (decide (x.2.2.2.2.2.2.1 < x.2.2.2.2.2.1)) (T.ite (decide ((0 : Int) ≤ x.2.2.2.2.2.2.1) && decide (x.2.2.2.2.2.2.1 < (↑x.2.2.2.2.1.length : Int))) (T.opt x.2.2.2.2.1[(0 : Nat) + Int.toNat x.2.2.2.2.2.2.1]? fun y => T.opt (scene_Check y) fun y => T.ite (!y.isNil) (T.ret (Ex.ret, x.1, x.2.1, ([], [], [], (0 : Int), [], (((0 : Int), (0 : Int), (0 : Int)), ((0 : Int), (0 : Int), (0 : Int)), ((0 : Int), (0 : Int), (0 : Int)), (0 : Int), (0 : Int), (0 : Int)), (0 : Int), (0 : Int)), y, List.take x.2.2.2.2.1.length x.2.2.2.2.1, x.2.2.2.2.2.1, x.2.2.2.2.2.2.1, ())) (T.ret (Ex.normal, x.1, x.2.1, x.2.2.1, x.2.2.2.1, List.take x.2.2.2.2.1.length x.2.2.2.2.1, x.2.2.2.2.2.1, W (x.2.2.2.2.2.2.1 + (1 : Int)), ()))) T.fail) (T.ret (Ex.exit (0 : Nat), x.1, x.2.1, x.2.2.1, x.2.2.2.1, List.take x.2.2.2.2.1.length x.2.2.2.2.1, x.2.2.2.2.2.1, x.2.2.2.2.2.2.1, ()))
noncomputable def merge_Join.l0 (x : ((List ((Int × Int × Int) × (Int × Int × Int) × Int)) × (List ((Int × Int × Int) × (Int × Int × Int) × (Int × Int × Int) × Int)) × (List (Int × Int × Int × Int)) × Int × (List (Int × Int × Int)) × ((Int × Int × Int) × (Int × Int × Int) × (Int × Int × Int) × Int × Int × Int) × Int × Int) × ((List ((Int × Int × Int) × (Int × Int × Int) × Int)) × (List ((Int × Int × Int) × (Int × Int × Int) × (Int × Int × Int) × Int)) × (List (Int × Int × Int × Int)) × Int × (List (Int × Int × Int)) × ((Int × Int × Int) × (Int × Int × Int) × (Int × Int × Int) × Int × Int × Int) × Int × Int) × ((List ((Int × Int × Int) × (Int × Int × Int) × Int)) × (List ((Int × Int × Int) × (Int × Int × Int) × (Int × Int × Int) × Int)) × (List (Int × Int × Int × Int)) × Int × (List (Int × Int × Int)) × ((Int × Int × Int) × (Int × Int × Int) × (Int × Int × Int) × Int × Int × Int) × Int × Int) × ErrD × List ((List ((Int × Int × Int) × (Int × Int × Int) × Int)) × (List ((Int × Int × Int) × (Int × Int × Int) × (Int × Int × Int) × Int)) × (List (Int × Int × Int × Int)) × Int × (List (Int × Int × Int)) × ((Int × Int × Int) × (Int × Int × Int) × (Int × Int × Int) × Int × Int × Int) × Int × Int) × Int × Int × Unit) : Option (Ex × ((List ((Int × Int × Int) × (Int × Int × Int) × Int)) × (List ((Int × Int × Int) × (Int × Int × Int) × (Int × Int × Int) × Int)) × (List (Int × Int × Int × Int)) × Int × (List (Int × Int × Int)) × ((Int × Int × Int) × (Int × Int × Int) × (Int × Int × Int) × Int × Int × Int) × Int × Int) × ((List ((Int × Int × Int) × (Int × Int × Int) × Int)) × (List ((Int × Int × Int) × (Int × Int × Int) × (Int × Int × Int) × Int)) × (List (Int × Int × Int × Int)) × Int × (List (Int × Int × Int)) × ((Int × Int × Int) × (Int × Int × Int) × (Int × Int × Int) × Int × Int × Int) × Int × Int) × ((List ((Int × Int × Int) × (Int × Int × Int) × Int)) × (List ((Int × Int × Int) × (Int × Int × Int) × (Int × Int × Int) × Int)) × (List (Int × Int × Int × Int)) × Int × (List (Int × Int × Int)) × ((Int × Int × Int) × (Int × Int × Int) × (Int × Int × Int) × Int × Int × Int) × Int × Int) × ErrD × List ((List ((Int × Int × Int) × (Int × Int × Int) × Int)) × (List ((Int × Int × Int) × (Int × Int × Int) × (Int × Int × Int) × Int)) × (List (Int × Int × Int × Int)) × Int × (List (Int × Int × Int)) × ((Int × Int × Int) × (Int × Int × Int) × (Int × Int × Int) × Int × Int × Int) × Int × Int) × Int × Int × Unit) := (iterT merge_Join.t0 rounds x).run
theorem merge_Join.k0 : bodies 0 (lp Tryd.f9 []) = [.loop (loopIn 0 (lp Tryd.f9 []))] ∧ WP Tryd.prog 0 (.block 0 (.loop (loopIn 0 (lp Tryd.f9 [])))) (loopS merge_Join.L0 123 0 [.exit 0, .ret] merge_Join.l0) :=
  loop_tree (L := merge_Join.L0) (F := (dpT Tryd.prog (ext (ext (ext (ext (ext Xs 26 scene_Check.q) 27 fault_New.q) 29 merge_Join_1.q) 68 scene_lights_1.q) 72 scene_within_1.q) merge_Join.deeps tb 100 8)) (D := (inL merge_Join.deeps.D)) (tab := []) (t := merge_Join.t0) mixed (dpT_ok mixed (quiet_ext (quiet_ext (quiet_ext (quiet_ext (quiet_ext Xok scene_Check.ok) fault_New.ok) merge_Join_1.ok) scene_lights_1.ok) scene_within_1.ok) merge_Join.deepsOk tbOk 100 8).1 (dpT_ok mixed (quiet_ext (quiet_ext (quiet_ext (quiet_ext (quiet_ext Xok scene_Check.ok) fault_New.ok) merge_Join_1.ok) scene_lights_1.ok) scene_within_1.ok) merge_Join.deepsOk tbOk 100 8).2 (fun _ => rfl) (by kernel_rfl) (by kernel_rfl) trivial (fun x => by kernel_rfl)
def merge_Join.L2 : List (Nat × Lay) := [(2, .box TScn), (3, .box TScn), (4, .box TScn), (9, .obx [.own TMatD, .own TTriD, .own TLitD, .dat TI, .own TP, .dat TCam, .dat TI, .dat TI]), (10, .clo 29 []), (69, .val (.sl TTriD)), (70, .val TI), (71, .val TI)]
noncomputable def merge_Join.t2 (x : ((List ((Int × Int × Int) × (Int × Int × Int) × Int)) × (List ((Int × Int × Int) × (Int × Int × Int) × (Int × Int × Int) × Int)) × (List (Int × Int × Int × Int)) × Int × (List (Int × Int × Int)) × ((Int × Int × Int) × (Int × Int × Int) × (Int × Int × Int) × Int × Int × Int) × Int × Int) × ((List ((Int × Int × Int) × (Int × Int × Int) × Int)) × (List ((Int × Int × Int) × (Int × Int × Int) × (Int × Int × Int) × Int)) × (List (Int × Int × Int × Int)) × Int × (List (Int × Int × Int)) × ((Int × Int × Int) × (Int × Int × Int) × (Int × Int × Int) × Int × Int × Int) × Int × Int) × ((List ((Int × Int × Int) × (Int × Int × Int) × Int)) × (List ((Int × Int × Int) × (Int × Int × Int) × (Int × Int × Int) × Int)) × (List (Int × Int × Int × Int)) × Int × (List (Int × Int × Int)) × ((Int × Int × Int) × (Int × Int × Int) × (Int × Int × Int) × Int × Int × Int) × Int × Int) × (List ((Int × Int × Int) × (Int × Int × Int) × Int) × List ((Int × Int × Int) × (Int × Int × Int) × (Int × Int × Int) × Int) × List (Int × Int × Int × Int) × Int × List (Int × Int × Int) × ((Int × Int × Int) × (Int × Int × Int) × (Int × Int × Int) × Int × Int × Int) × Int × Int × Unit) × (List ((Int × Int × Int) × (Int × Int × Int) × (Int × Int × Int) × Int)) × Int × Int × Unit) : T (Ex × ((List ((Int × Int × Int) × (Int × Int × Int) × Int)) × (List ((Int × Int × Int) × (Int × Int × Int) × (Int × Int × Int) × Int)) × (List (Int × Int × Int × Int)) × Int × (List (Int × Int × Int)) × ((Int × Int × Int) × (Int × Int × Int) × (Int × Int × Int) × Int × Int × Int) × Int × Int) × ((List ((Int × Int × Int) × (Int × Int × Int) × Int)) × (List ((Int × Int × Int) × (Int × Int × Int) × (Int × Int × Int) × Int)) × (List (Int × Int × Int × Int)) × Int × (List (Int × Int × Int)) × ((Int × Int × Int) × (Int × Int × Int) × (Int × Int × Int) × Int × Int × Int) × Int × Int) × ((List ((Int × Int × Int) × (Int × Int × Int) × Int)) × (List ((Int × Int × Int) × (Int × Int × Int) × (Int × Int × Int) × Int)) × (List (Int × Int × Int × Int)) × Int × (List (Int × Int × Int)) × ((Int × Int × Int) × (Int × Int × Int) × (Int × Int × Int) × Int × Int × Int) × Int × Int) × (List ((Int × Int × Int) × (Int × Int × Int) × Int) × List ((Int × Int × Int) × (Int × Int × Int) × (Int × Int × Int) × Int) × List (Int × Int × Int × Int) × Int × List (Int × Int × Int) × ((Int × Int × Int) × (Int × Int × Int) × (Int × Int × Int) × Int × Int × Int) × Int × Int × Unit) × (List ((Int × Int × Int) × (Int × Int × Int) × (Int × Int × Int) × Int)) × Int × Int × Unit) := T.ite (decide (x.2.2.2.2.2.2.1 < x.2.2.2.2.2.1)) (T.opt (lget x.2.2.2.2.1 x.2.2.2.2.2.2.1) fun y => T.ite (decide ((x.2.2.2.1.2.1.length + (1 : Nat)) * nat_lit 80 ≤ most)) (T.ret (Ex.normal, x.1, x.2.1, x.2.2.1, (List.take x.2.2.2.1.1.length x.2.2.2.1.1, List.take (x.2.2.2.1.2.1.length + (1 : Nat)) (List.take x.2.2.2.1.2.1.length x.2.2.2.1.2.1 ++ [(y.1, y.2.1, y.2.2.1, W (y.2.2.2 + (↑(List.length x.1.1) : Int)))]), List.take x.2.2.2.1.2.2.1.length x.2.2.2.1.2.2.1, x.2.2.2.1.2.2.2.1, List.take x.2.2.2.1.2.2.2.2.1.length x.2.2.2.1.2.2.2.2.1, x.2.2.2.1.2.2.2.2.2.1, x.2.2.2.1.2.2.2.2.2.2.1, x.2.2.2.1.2.2.2.2.2.2.2.1, ()), x.2.2.2.2.1, x.2.2.2.2.2.1, W (x.2.2.2.2.2.2.1 + (1 : Int)), ())) T.fail) (T.ret (Ex.exit (2 : Nat), x.1, x.2.1, x.2.2.1, (List.take x.2.2.2.1.1.length x.2.2.2.1.1, List.take x.2.2.2.1.2.1.length x.2.2.2.1.2.1, List.take x.2.2.2.1.2.2.1.length x.2.2.2.1.2.2.1, x.2.2.2.1.2.2.2.1, List.take x.2.2.2.1.2.2.2.2.1.length x.2.2.2.1.2.2.2.2.1, x.2.2.2.1.2.2.2.2.2.1, x.2.2.2.1.2.2.2.2.2.2.1, x.2.2.2.1.2.2.2.2.2.2.2.1, ()), x.2.2.2.2.1, x.2.2.2.2.2.1, x.2.2.2.2.2.2.1, ()))
noncomputable def merge_Join.l2 (x : ((List ((Int × Int × Int) × (Int × Int × Int) × Int)) × (List ((Int × Int × Int) × (Int × Int × Int) × (Int × Int × Int) × Int)) × (List (Int × Int × Int × Int)) × Int × (List (Int × Int × Int)) × ((Int × Int × Int) × (Int × Int × Int) × (Int × Int × Int) × Int × Int × Int) × Int × Int) × ((List ((Int × Int × Int) × (Int × Int × Int) × Int)) × (List ((Int × Int × Int) × (Int × Int × Int) × (Int × Int × Int) × Int)) × (List (Int × Int × Int × Int)) × Int × (List (Int × Int × Int)) × ((Int × Int × Int) × (Int × Int × Int) × (Int × Int × Int) × Int × Int × Int) × Int × Int) × ((List ((Int × Int × Int) × (Int × Int × Int) × Int)) × (List ((Int × Int × Int) × (Int × Int × Int) × (Int × Int × Int) × Int)) × (List (Int × Int × Int × Int)) × Int × (List (Int × Int × Int)) × ((Int × Int × Int) × (Int × Int × Int) × (Int × Int × Int) × Int × Int × Int) × Int × Int) × (List ((Int × Int × Int) × (Int × Int × Int) × Int) × List ((Int × Int × Int) × (Int × Int × Int) × (Int × Int × Int) × Int) × List (Int × Int × Int × Int) × Int × List (Int × Int × Int) × ((Int × Int × Int) × (Int × Int × Int) × (Int × Int × Int) × Int × Int × Int) × Int × Int × Unit) × (List ((Int × Int × Int) × (Int × Int × Int) × (Int × Int × Int) × Int)) × Int × Int × Unit) : Option (Ex × ((List ((Int × Int × Int) × (Int × Int × Int) × Int)) × (List ((Int × Int × Int) × (Int × Int × Int) × (Int × Int × Int) × Int)) × (List (Int × Int × Int × Int)) × Int × (List (Int × Int × Int)) × ((Int × Int × Int) × (Int × Int × Int) × (Int × Int × Int) × Int × Int × Int) × Int × Int) × ((List ((Int × Int × Int) × (Int × Int × Int) × Int)) × (List ((Int × Int × Int) × (Int × Int × Int) × (Int × Int × Int) × Int)) × (List (Int × Int × Int × Int)) × Int × (List (Int × Int × Int)) × ((Int × Int × Int) × (Int × Int × Int) × (Int × Int × Int) × Int × Int × Int) × Int × Int) × ((List ((Int × Int × Int) × (Int × Int × Int) × Int)) × (List ((Int × Int × Int) × (Int × Int × Int) × (Int × Int × Int) × Int)) × (List (Int × Int × Int × Int)) × Int × (List (Int × Int × Int)) × ((Int × Int × Int) × (Int × Int × Int) × (Int × Int × Int) × Int × Int × Int) × Int × Int) × (List ((Int × Int × Int) × (Int × Int × Int) × Int) × List ((Int × Int × Int) × (Int × Int × Int) × (Int × Int × Int) × Int) × List (Int × Int × Int × Int) × Int × List (Int × Int × Int) × ((Int × Int × Int) × (Int × Int × Int) × (Int × Int × Int) × Int × Int × Int) × Int × Int × Unit) × (List ((Int × Int × Int) × (Int × Int × Int) × (Int × Int × Int) × Int)) × Int × Int × Unit) := (iterT merge_Join.t2 rounds x).run
theorem merge_Join.k2 : bodies 2 (lp Tryd.f9 []) = [.loop (loopIn 2 (lp Tryd.f9 []))] ∧ WP Tryd.prog 0 (.block 2 (.loop (loopIn 2 (lp Tryd.f9 [])))) (loopS merge_Join.L2 123 2 [.exit 2] merge_Join.l2) :=
  loop_tree (L := merge_Join.L2) (F := (dpT Tryd.prog (ext (ext (ext (ext (ext Xs 26 scene_Check.q) 27 fault_New.q) 29 merge_Join_1.q) 68 scene_lights_1.q) 72 scene_within_1.q) merge_Join.deeps tb 100 8)) (D := (inL merge_Join.deeps.D)) (tab := []) (t := merge_Join.t2) mixed (dpT_ok mixed (quiet_ext (quiet_ext (quiet_ext (quiet_ext (quiet_ext Xok scene_Check.ok) fault_New.ok) merge_Join_1.ok) scene_lights_1.ok) scene_within_1.ok) merge_Join.deepsOk tbOk 100 8).1 (dpT_ok mixed (quiet_ext (quiet_ext (quiet_ext (quiet_ext (quiet_ext Xok scene_Check.ok) fault_New.ok) merge_Join_1.ok) scene_lights_1.ok) scene_within_1.ok) merge_Join.deepsOk tbOk 100 8).2 (fun _ => rfl) (by kernel_rfl) (by kernel_rfl) trivial (fun x => by kernel_rfl)
def merge_Join.L4 : List (Nat × Lay) := [(2, .box TScn), (3, .box TScn), (4, .box TScn), (9, .obx [.own TMatD, .own TTriD, .own TLitD, .dat TI, .own TP, .dat TCam, .dat TI, .dat TI]), (10, .clo 29 []), (91, .val (.sl TLitD)), (92, .val TI), (93, .val TI)]
noncomputable def merge_Join.t4 (x : ((List ((Int × Int × Int) × (Int × Int × Int) × Int)) × (List ((Int × Int × Int) × (Int × Int × Int) × (Int × Int × Int) × Int)) × (List (Int × Int × Int × Int)) × Int × (List (Int × Int × Int)) × ((Int × Int × Int) × (Int × Int × Int) × (Int × Int × Int) × Int × Int × Int) × Int × Int) × ((List ((Int × Int × Int) × (Int × Int × Int) × Int)) × (List ((Int × Int × Int) × (Int × Int × Int) × (Int × Int × Int) × Int)) × (List (Int × Int × Int × Int)) × Int × (List (Int × Int × Int)) × ((Int × Int × Int) × (Int × Int × Int) × (Int × Int × Int) × Int × Int × Int) × Int × Int) × ((List ((Int × Int × Int) × (Int × Int × Int) × Int)) × (List ((Int × Int × Int) × (Int × Int × Int) × (Int × Int × Int) × Int)) × (List (Int × Int × Int × Int)) × Int × (List (Int × Int × Int)) × ((Int × Int × Int) × (Int × Int × Int) × (Int × Int × Int) × Int × Int × Int) × Int × Int) × (List ((Int × Int × Int) × (Int × Int × Int) × Int) × List ((Int × Int × Int) × (Int × Int × Int) × (Int × Int × Int) × Int) × List (Int × Int × Int × Int) × Int × List (Int × Int × Int) × ((Int × Int × Int) × (Int × Int × Int) × (Int × Int × Int) × Int × Int × Int) × Int × Int × Unit) × (List (Int × Int × Int × Int)) × Int × Int × Unit) : T (Ex × ((List ((Int × Int × Int) × (Int × Int × Int) × Int)) × (List ((Int × Int × Int) × (Int × Int × Int) × (Int × Int × Int) × Int)) × (List (Int × Int × Int × Int)) × Int × (List (Int × Int × Int)) × ((Int × Int × Int) × (Int × Int × Int) × (Int × Int × Int) × Int × Int × Int) × Int × Int) × ((List ((Int × Int × Int) × (Int × Int × Int) × Int)) × (List ((Int × Int × Int) × (Int × Int × Int) × (Int × Int × Int) × Int)) × (List (Int × Int × Int × Int)) × Int × (List (Int × Int × Int)) × ((Int × Int × Int) × (Int × Int × Int) × (Int × Int × Int) × Int × Int × Int) × Int × Int) × ((List ((Int × Int × Int) × (Int × Int × Int) × Int)) × (List ((Int × Int × Int) × (Int × Int × Int) × (Int × Int × Int) × Int)) × (List (Int × Int × Int × Int)) × Int × (List (Int × Int × Int)) × ((Int × Int × Int) × (Int × Int × Int) × (Int × Int × Int) × Int × Int × Int) × Int × Int) × (List ((Int × Int × Int) × (Int × Int × Int) × Int) × List ((Int × Int × Int) × (Int × Int × Int) × (Int × Int × Int) × Int) × List (Int × Int × Int × Int) × Int × List (Int × Int × Int) × ((Int × Int × Int) × (Int × Int × Int) × (Int × Int × Int) × Int × Int × Int) × Int × Int × Unit) × (List (Int × Int × Int × Int)) × Int × Int × Unit) := T.ite (decide (x.2.2.2.2.2.2.1 < x.2.2.2.2.2.1)) (T.opt (lget x.2.2.2.2.1 x.2.2.2.2.2.2.1) fun y => T.ite (decide ((x.2.2.2.1.2.2.1.length + (1 : Nat)) * nat_lit 32 ≤ most)) (T.ret (Ex.normal, x.1, x.2.1, x.2.2.1, (List.take x.2.2.2.1.1.length x.2.2.2.1.1, List.take x.2.2.2.1.2.1.length x.2.2.2.1.2.1, List.take (x.2.2.2.1.2.2.1.length + (1 : Nat)) (List.take x.2.2.2.1.2.2.1.length x.2.2.2.1.2.2.1 ++ [(W (y.1 + (↑(List.length x.1.2.1) : Int)), y.2)]), x.2.2.2.1.2.2.2.1, List.take x.2.2.2.1.2.2.2.2.1.length x.2.2.2.1.2.2.2.2.1, x.2.2.2.1.2.2.2.2.2.1, x.2.2.2.1.2.2.2.2.2.2.1, x.2.2.2.1.2.2.2.2.2.2.2.1, ()), x.2.2.2.2.1, x.2.2.2.2.2.1, W (x.2.2.2.2.2.2.1 + (1 : Int)), ())) T.fail) (T.ret (Ex.exit (4 : Nat), x.1, x.2.1, x.2.2.1, (List.take x.2.2.2.1.1.length x.2.2.2.1.1, List.take x.2.2.2.1.2.1.length x.2.2.2.1.2.1, List.take x.2.2.2.1.2.2.1.length x.2.2.2.1.2.2.1, x.2.2.2.1.2.2.2.1, List.take x.2.2.2.1.2.2.2.2.1.length x.2.2.2.1.2.2.2.2.1, x.2.2.2.1.2.2.2.2.2.1, x.2.2.2.1.2.2.2.2.2.2.1, x.2.2.2.1.2.2.2.2.2.2.2.1, ()), x.2.2.2.2.1, x.2.2.2.2.2.1, x.2.2.2.2.2.2.1, ()))
noncomputable def merge_Join.l4 (x : ((List ((Int × Int × Int) × (Int × Int × Int) × Int)) × (List ((Int × Int × Int) × (Int × Int × Int) × (Int × Int × Int) × Int)) × (List (Int × Int × Int × Int)) × Int × (List (Int × Int × Int)) × ((Int × Int × Int) × (Int × Int × Int) × (Int × Int × Int) × Int × Int × Int) × Int × Int) × ((List ((Int × Int × Int) × (Int × Int × Int) × Int)) × (List ((Int × Int × Int) × (Int × Int × Int) × (Int × Int × Int) × Int)) × (List (Int × Int × Int × Int)) × Int × (List (Int × Int × Int)) × ((Int × Int × Int) × (Int × Int × Int) × (Int × Int × Int) × Int × Int × Int) × Int × Int) × ((List ((Int × Int × Int) × (Int × Int × Int) × Int)) × (List ((Int × Int × Int) × (Int × Int × Int) × (Int × Int × Int) × Int)) × (List (Int × Int × Int × Int)) × Int × (List (Int × Int × Int)) × ((Int × Int × Int) × (Int × Int × Int) × (Int × Int × Int) × Int × Int × Int) × Int × Int) × (List ((Int × Int × Int) × (Int × Int × Int) × Int) × List ((Int × Int × Int) × (Int × Int × Int) × (Int × Int × Int) × Int) × List (Int × Int × Int × Int) × Int × List (Int × Int × Int) × ((Int × Int × Int) × (Int × Int × Int) × (Int × Int × Int) × Int × Int × Int) × Int × Int × Unit) × (List (Int × Int × Int × Int)) × Int × Int × Unit) : Option (Ex × ((List ((Int × Int × Int) × (Int × Int × Int) × Int)) × (List ((Int × Int × Int) × (Int × Int × Int) × (Int × Int × Int) × Int)) × (List (Int × Int × Int × Int)) × Int × (List (Int × Int × Int)) × ((Int × Int × Int) × (Int × Int × Int) × (Int × Int × Int) × Int × Int × Int) × Int × Int) × ((List ((Int × Int × Int) × (Int × Int × Int) × Int)) × (List ((Int × Int × Int) × (Int × Int × Int) × (Int × Int × Int) × Int)) × (List (Int × Int × Int × Int)) × Int × (List (Int × Int × Int)) × ((Int × Int × Int) × (Int × Int × Int) × (Int × Int × Int) × Int × Int × Int) × Int × Int) × ((List ((Int × Int × Int) × (Int × Int × Int) × Int)) × (List ((Int × Int × Int) × (Int × Int × Int) × (Int × Int × Int) × Int)) × (List (Int × Int × Int × Int)) × Int × (List (Int × Int × Int)) × ((Int × Int × Int) × (Int × Int × Int) × (Int × Int × Int) × Int × Int × Int) × Int × Int) × (List ((Int × Int × Int) × (Int × Int × Int) × Int) × List ((Int × Int × Int) × (Int × Int × Int) × (Int × Int × Int) × Int) × List (Int × Int × Int × Int) × Int × List (Int × Int × Int) × ((Int × Int × Int) × (Int × Int × Int) × (Int × Int × Int) × Int × Int × Int) × Int × Int × Unit) × (List (Int × Int × Int × Int)) × Int × Int × Unit) := (iterT merge_Join.t4 rounds x).run
theorem merge_Join.k4 : bodies 4 (lp Tryd.f9 []) = [.loop (loopIn 4 (lp Tryd.f9 []))] ∧ WP Tryd.prog 0 (.block 4 (.loop (loopIn 4 (lp Tryd.f9 [])))) (loopS merge_Join.L4 123 4 [.exit 4] merge_Join.l4) :=
  loop_tree (L := merge_Join.L4) (F := (dpT Tryd.prog (ext (ext (ext (ext (ext Xs 26 scene_Check.q) 27 fault_New.q) 29 merge_Join_1.q) 68 scene_lights_1.q) 72 scene_within_1.q) merge_Join.deeps tb 100 8)) (D := (inL merge_Join.deeps.D)) (tab := []) (t := merge_Join.t4) mixed (dpT_ok mixed (quiet_ext (quiet_ext (quiet_ext (quiet_ext (quiet_ext Xok scene_Check.ok) fault_New.ok) merge_Join_1.ok) scene_lights_1.ok) scene_within_1.ok) merge_Join.deepsOk tbOk 100 8).1 (dpT_ok mixed (quiet_ext (quiet_ext (quiet_ext (quiet_ext (quiet_ext Xok scene_Check.ok) fault_New.ok) merge_Join_1.ok) scene_lights_1.ok) scene_within_1.ok) merge_Join.deepsOk tbOk 100 8).2 (fun _ => rfl) (by kernel_rfl) (by kernel_rfl) trivial (fun x => by kernel_rfl)
noncomputable def merge_Join.t (x : ((List ((Int × Int × Int) × (Int × Int × Int) × Int)) × (List ((Int × Int × Int) × (Int × Int × Int) × (Int × Int × Int) × Int)) × (List (Int × Int × Int × Int)) × Int × (List (Int × Int × Int)) × ((Int × Int × Int) × (Int × Int × Int) × (Int × Int × Int) × Int × Int × Int) × Int × Int) × ((List ((Int × Int × Int) × (Int × Int × Int) × Int)) × (List ((Int × Int × Int) × (Int × Int × Int) × (Int × Int × Int) × Int)) × (List (Int × Int × Int × Int)) × Int × (List (Int × Int × Int)) × ((Int × Int × Int) × (Int × Int × Int) × (Int × Int × Int) × Int × Int × Int) × Int × Int)) : T (((List ((Int × Int × Int) × (Int × Int × Int) × Int)) × (List ((Int × Int × Int) × (Int × Int × Int) × (Int × Int × Int) × Int)) × (List (Int × Int × Int × Int)) × Int × (List (Int × Int × Int)) × ((Int × Int × Int) × (Int × Int × Int) × (Int × Int × Int) × Int × Int × Int) × Int × Int) × ErrD) := T.opt (merge_Join.l0 (x.1, x.2, ([], [], [], (0 : Int), [], (((0 : Int), (0 : Int), (0 : Int)), ((0 : Int), (0 : Int), (0 : Int)), ((0 : Int), (0 : Int), (0 : Int)), (0 : Int), (0 : Int), (0 : Int)), (0 : Int), (0 : Int)), ErrD.nil, List.take (2 : Nat) [x.1, x.2], (↑(2 : Nat) : Int), (0 : Int), ())) fun y => T.ite (exEq y.1 (Ex.exit (0 : Nat))) (T.ite (decide (W ((↑(List.length y.2.1.1) : Int) + (↑(List.length y.2.2.1.1) : Int)) > (32 : Int)) || decide (W ((↑(List.length y.2.1.2.1) : Int) + (↑(List.length y.2.2.1.2.1) : Int)) > (512 : Int))) (T.opt (fault_New ((4 : Int), (0 : Int))) fun y => T.ret (([], [], [], (0 : Int), [], (((0 : Int), (0 : Int), (0 : Int)), ((0 : Int), (0 : Int), (0 : Int)), ((0 : Int), (0 : Int), (0 : Int)), (0 : Int), (0 : Int), (0 : Int)), (0 : Int), (0 : Int)), y)) (T.ite (decide (y.2.1.2.2.2.1 > (0 : Int)) && decide (y.2.2.1.2.2.2.1 > (0 : Int))) (T.opt (fault_New ((2 : Int), (0 : Int))) fun y => T.ret (([], [], [], (0 : Int), [], (((0 : Int), (0 : Int), (0 : Int)), ((0 : Int), (0 : Int), (0 : Int)), ((0 : Int), (0 : Int), (0 : Int)), (0 : Int), (0 : Int), (0 : Int)), (0 : Int), (0 : Int)), y)) (T.ite (decide (List.length y.2.1.1 * (56 : Nat) ≤ most)) (T.ite (decide (List.length y.2.1.2.1 * (80 : Nat) ≤ most)) (T.ite (decide (List.length y.2.1.2.2.1 * (32 : Nat) ≤ most)) (T.ite (decide (List.length y.2.1.2.2.2.2.1 * (24 : Nat) ≤ most)) (T.ite (decide ((List.length y.2.1.1 + List.length y.2.2.1.1) * nat_lit 56 ≤ most)) (T.opt (merge_Join.l2 (y.2.1, y.2.2.1, y.2.2.2.1, (List.take (List.length y.2.1.1 + List.length y.2.2.1.1) (List.take (List.length y.2.1.1) y.2.1.1 ++ y.2.2.1.1), List.take (List.length y.2.1.2.1) y.2.1.2.1, List.take (List.length y.2.1.2.2.1) y.2.1.2.2.1, y.2.1.2.2.2.1, List.take (List.length y.2.1.2.2.2.2.1) y.2.1.2.2.2.2.1, y.2.1.2.2.2.2.2.1, y.2.1.2.2.2.2.2.2.1, y.2.1.2.2.2.2.2.2.2, ()), y.2.2.1.2.1, (↑(List.length y.2.2.1.2.1) : Int), (0 : Int), ())) fun y => T.ite (exEq y.1 (Ex.exit (2 : Nat))) (T.opt (merge_Join.l4 (y.2.1, y.2.2.1, y.2.2.2.1, (List.take y.2.2.2.2.1.1.length y.2.2.2.2.1.1, List.take y.2.2.2.2.1.2.1.length y.2.2.2.2.1.2.1, List.take y.2.2.2.2.1.2.2.1.length y.2.2.2.2.1.2.2.1, y.2.2.2.2.1.2.2.2.1, List.take y.2.2.2.2.1.2.2.2.2.1.length y.2.2.2.2.1.2.2.2.2.1, y.2.2.2.2.1.2.2.2.2.2.1, y.2.2.2.2.1.2.2.2.2.2.2.1, y.2.2.2.2.1.2.2.2.2.2.2.2.1, ()), y.2.2.1.2.2.1, (↑(List.length y.2.2.1.2.2.1) : Int), (0 : Int), ())) fun y => T.ite (exEq y.1 (Ex.exit (4 : Nat))) (T.ite (decide (y.2.2.1.2.2.2.1 > (0 : Int))) (T.ite (decide (List.length y.2.2.1.2.2.2.2.1 * (24 : Nat) ≤ most)) (T.ret ((List.take y.2.2.2.2.1.1.length y.2.2.2.2.1.1, List.take y.2.2.2.2.1.2.1.length y.2.2.2.2.1.2.1, List.take y.2.2.2.2.1.2.2.1.length y.2.2.2.2.1.2.2.1, y.2.2.1.2.2.2.1, List.take (List.length y.2.2.1.2.2.2.2.1) y.2.2.1.2.2.2.2.1, y.2.2.2.2.1.2.2.2.2.2.1, y.2.2.2.2.1.2.2.2.2.2.2.1, y.2.2.2.2.1.2.2.2.2.2.2.2.1), ErrD.nil)) T.fail) (T.ret ((List.take y.2.2.2.2.1.1.length y.2.2.2.2.1.1, List.take y.2.2.2.2.1.2.1.length y.2.2.2.2.1.2.1, List.take y.2.2.2.2.1.2.2.1.length y.2.2.2.2.1.2.2.1, y.2.2.2.2.1.2.2.2.1, List.take y.2.2.2.2.1.2.2.2.2.1.length y.2.2.2.2.1.2.2.2.2.1, y.2.2.2.2.1.2.2.2.2.2.1, y.2.2.2.2.1.2.2.2.2.2.2.1, y.2.2.2.2.1.2.2.2.2.2.2.2.1), ErrD.nil))) T.fail) T.fail) T.fail) T.fail) T.fail) T.fail) T.fail))) (T.ite (exEq y.1 Ex.ret) (T.ret (y.2.2.2.1, y.2.2.2.2.1)) T.fail)
noncomputable def merge_Join (x : ((List ((Int × Int × Int) × (Int × Int × Int) × Int)) × (List ((Int × Int × Int) × (Int × Int × Int) × (Int × Int × Int) × Int)) × (List (Int × Int × Int × Int)) × Int × (List (Int × Int × Int)) × ((Int × Int × Int) × (Int × Int × Int) × (Int × Int × Int) × Int × Int × Int) × Int × Int) × ((List ((Int × Int × Int) × (Int × Int × Int) × Int)) × (List ((Int × Int × Int) × (Int × Int × Int) × (Int × Int × Int) × Int)) × (List (Int × Int × Int × Int)) × Int × (List (Int × Int × Int)) × ((Int × Int × Int) × (Int × Int × Int) × (Int × Int × Int) × Int × Int × Int) × Int × Int)) : Option (((List ((Int × Int × Int) × (Int × Int × Int) × Int)) × (List ((Int × Int × Int) × (Int × Int × Int) × (Int × Int × Int) × Int)) × (List (Int × Int × Int × Int)) × Int × (List (Int × Int × Int)) × ((Int × Int × Int) × (Int × Int × Int) × (Int × Int × Int) × Int × Int × Int) × Int × Int) × ErrD) := (merge_Join.t x).run
noncomputable def merge_Join.q : List AV → T AV := entry [TScn, TScn] (outR [TScn, TE]) fun x => .opt (merge_Join x) .ret
theorem merge_Join.ok : FnOK Tryd.prog 9 merge_Join.q :=
  entry_call (ps := [TScn, TScn]) (rs := [TScn, TE]) (F := (dpT Tryd.prog (ext (ext (ext (ext (ext Xs 26 scene_Check.q) 27 fault_New.q) 29 merge_Join_1.q) 68 scene_lights_1.q) 72 scene_within_1.q) merge_Join.deeps tb 100 8)) (D := (inL merge_Join.deeps.D)) (S := tabS [(0, loopS merge_Join.L0 123 0 [.exit 0, .ret] merge_Join.l0), (2, loopS merge_Join.L2 123 2 [.exit 2] merge_Join.l2), (4, loopS merge_Join.L4 123 4 [.exit 4] merge_Join.l4)]) (t := merge_Join.t) mixed (dpT_ok mixed (quiet_ext (quiet_ext (quiet_ext (quiet_ext (quiet_ext Xok scene_Check.ok) fault_New.ok) merge_Join_1.ok) scene_lights_1.ok) scene_within_1.ok) merge_Join.deepsOk tbOk 100 8).1 (dpT_ok mixed (quiet_ext (quiet_ext (quiet_ext (quiet_ext (quiet_ext Xok scene_Check.ok) fault_New.ok) merge_Join_1.ok) scene_lights_1.ok) scene_within_1.ok) merge_Join.deepsOk tbOk 100 8).2 Tryd.func9 (by kernel_rfl) (sok_fn ⟨merge_Join.k0, merge_Join.k2, merge_Join.k4, trivial⟩) (by kernel_rfl) (fun x => by kernel_rfl)
end Go.Proofs.Pen

namespace Go.Proofs.Pen
open Go Go.Proofs
def ref48_Join.L0 : List (Nat × Lay) := [(2, .box TScn), (3, .box TScn), (4, .box TScn), (5, .obx [.own TMatD, .own TTriD, .own TLitD, .dat TI, .own TP, .dat TCam, .dat TI, .dat TI]), (6, .val TI)]
noncomputable def ref48_Join.t0 (x : ((List ((Int × Int × Int) × (Int × Int × Int) × Int)) × (List ((Int × Int × Int) × (Int × Int × Int) × (Int × Int × Int) × Int)) × (List (Int × Int × Int × Int)) × Int × (List (Int × Int × Int)) × ((Int × Int × Int) × (Int × Int × Int) × (Int × Int × Int) × Int × Int × Int) × Int × Int) × ((List ((Int × Int × Int) × (Int × Int × Int) × Int)) × (List ((Int × Int × Int) × (Int × Int × Int) × (Int × Int × Int) × Int)) × (List (Int × Int × Int × Int)) × Int × (List (Int × Int × Int)) × ((Int × Int × Int) × (Int × Int × Int) × (Int × Int × Int) × Int × Int × Int) × Int × Int) × ((List ((Int × Int × Int) × (Int × Int × Int) × Int)) × (List ((Int × Int × Int) × (Int × Int × Int) × (Int × Int × Int) × Int)) × (List (Int × Int × Int × Int)) × Int × (List (Int × Int × Int)) × ((Int × Int × Int) × (Int × Int × Int) × (Int × Int × Int) × Int × Int × Int) × Int × Int) × (List ((Int × Int × Int) × (Int × Int × Int) × Int) × List ((Int × Int × Int) × (Int × Int × Int) × (Int × Int × Int) × Int) × List (Int × Int × Int × Int) × Int × List (Int × Int × Int) × ((Int × Int × Int) × (Int × Int × Int) × (Int × Int × Int) × Int × Int × Int) × Int × Int × Unit) × Int × Unit) : T (Ex × ((List ((Int × Int × Int) × (Int × Int × Int) × Int)) × (List ((Int × Int × Int) × (Int × Int × Int) × (Int × Int × Int) × Int)) × (List (Int × Int × Int × Int)) × Int × (List (Int × Int × Int)) × ((Int × Int × Int) × (Int × Int × Int) × (Int × Int × Int) × Int × Int × Int) × Int × Int) × ((List ((Int × Int × Int) × (Int × Int × Int) × Int)) × (List ((Int × Int × Int) × (Int × Int × Int) × (Int × Int × Int) × Int)) × (List (Int × Int × Int × Int)) × Int × (List (Int × Int × Int)) × ((Int × Int × Int) × (Int × Int × Int) × (Int × Int × Int) × Int × Int × Int) × Int × Int) × ((List ((Int × Int × Int) × (Int × Int × Int) × Int)) × (List ((Int × Int × Int) × (Int × Int × Int) × (Int × Int × Int) × Int)) × (List (Int × Int × Int × Int)) × Int × (List (Int × Int × Int)) × ((Int × Int × Int) × (Int × Int × Int) × (Int × Int × Int) × Int × Int × Int) × Int × Int) × (List ((Int × Int × Int) × (Int × Int × Int) × Int) × List ((Int × Int × Int) × (Int × Int × Int) × (Int × Int × Int) × Int) × List (Int × Int × Int × Int) × Int × List (Int × Int × Int) × ((Int × Int × Int) × (Int × Int × Int) × (Int × Int × Int) × Int × Int × Int) × Int × Int × Unit) × Int × Unit) := T.ite (decide (x.2.2.2.2.1 < (↑(List.length x.2.1.2.1) : Int))) (T.opt (lget x.2.1.2.1 x.2.2.2.2.1) fun y => T.ite (decide ((x.2.2.2.1.2.1.length + (1 : Nat)) * nat_lit 80 ≤ most)) (T.ret (Ex.normal, x.1, x.2.1, x.2.2.1, (List.take x.2.2.2.1.1.length x.2.2.2.1.1, List.take (x.2.2.2.1.2.1.length + (1 : Nat)) (List.take x.2.2.2.1.2.1.length x.2.2.2.1.2.1 ++ [(y.1, y.2.1, y.2.2.1, W (y.2.2.2 + (↑(List.length x.1.1) : Int)))]), List.take x.2.2.2.1.2.2.1.length x.2.2.2.1.2.2.1, x.2.2.2.1.2.2.2.1, List.take x.2.2.2.1.2.2.2.2.1.length x.2.2.2.1.2.2.2.2.1, x.2.2.2.1.2.2.2.2.2.1, x.2.2.2.1.2.2.2.2.2.2.1, x.2.2.2.1.2.2.2.2.2.2.2.1, ()), W (x.2.2.2.2.1 + (1 : Int)), ())) T.fail) (T.ret (Ex.exit (0 : Nat), x.1, x.2.1, x.2.2.1, (List.take x.2.2.2.1.1.length x.2.2.2.1.1, List.take x.2.2.2.1.2.1.length x.2.2.2.1.2.1, List.take x.2.2.2.1.2.2.1.length x.2.2.2.1.2.2.1, x.2.2.2.1.2.2.2.1, List.take x.2.2.2.1.2.2.2.2.1.length x.2.2.2.1.2.2.2.2.1, x.2.2.2.1.2.2.2.2.2.1, x.2.2.2.1.2.2.2.2.2.2.1, x.2.2.2.1.2.2.2.2.2.2.2.1, ()), x.2.2.2.2.1, ()))
noncomputable def ref48_Join.l0 (x : ((List ((Int × Int × Int) × (Int × Int × Int) × Int)) × (List ((Int × Int × Int) × (Int × Int × Int) × (Int × Int × Int) × Int)) × (List (Int × Int × Int × Int)) × Int × (List (Int × Int × Int)) × ((Int × Int × Int) × (Int × Int × Int) × (Int × Int × Int) × Int × Int × Int) × Int × Int) × ((List ((Int × Int × Int) × (Int × Int × Int) × Int)) × (List ((Int × Int × Int) × (Int × Int × Int) × (Int × Int × Int) × Int)) × (List (Int × Int × Int × Int)) × Int × (List (Int × Int × Int)) × ((Int × Int × Int) × (Int × Int × Int) × (Int × Int × Int) × Int × Int × Int) × Int × Int) × ((List ((Int × Int × Int) × (Int × Int × Int) × Int)) × (List ((Int × Int × Int) × (Int × Int × Int) × (Int × Int × Int) × Int)) × (List (Int × Int × Int × Int)) × Int × (List (Int × Int × Int)) × ((Int × Int × Int) × (Int × Int × Int) × (Int × Int × Int) × Int × Int × Int) × Int × Int) × (List ((Int × Int × Int) × (Int × Int × Int) × Int) × List ((Int × Int × Int) × (Int × Int × Int) × (Int × Int × Int) × Int) × List (Int × Int × Int × Int) × Int × List (Int × Int × Int) × ((Int × Int × Int) × (Int × Int × Int) × (Int × Int × Int) × Int × Int × Int) × Int × Int × Unit) × Int × Unit) : Option (Ex × ((List ((Int × Int × Int) × (Int × Int × Int) × Int)) × (List ((Int × Int × Int) × (Int × Int × Int) × (Int × Int × Int) × Int)) × (List (Int × Int × Int × Int)) × Int × (List (Int × Int × Int)) × ((Int × Int × Int) × (Int × Int × Int) × (Int × Int × Int) × Int × Int × Int) × Int × Int) × ((List ((Int × Int × Int) × (Int × Int × Int) × Int)) × (List ((Int × Int × Int) × (Int × Int × Int) × (Int × Int × Int) × Int)) × (List (Int × Int × Int × Int)) × Int × (List (Int × Int × Int)) × ((Int × Int × Int) × (Int × Int × Int) × (Int × Int × Int) × Int × Int × Int) × Int × Int) × ((List ((Int × Int × Int) × (Int × Int × Int) × Int)) × (List ((Int × Int × Int) × (Int × Int × Int) × (Int × Int × Int) × Int)) × (List (Int × Int × Int × Int)) × Int × (List (Int × Int × Int)) × ((Int × Int × Int) × (Int × Int × Int) × (Int × Int × Int) × Int × Int × Int) × Int × Int) × (List ((Int × Int × Int) × (Int × Int × Int) × Int) × List ((Int × Int × Int) × (Int × Int × Int) × (Int × Int × Int) × Int) × List (Int × Int × Int × Int) × Int × List (Int × Int × Int) × ((Int × Int × Int) × (Int × Int × Int) × (Int × Int × Int) × Int × Int × Int) × Int × Int × Unit) × Int × Unit) := (iterT ref48_Join.t0 rounds x).run
theorem ref48_Join.k0 : bodies 0 (lp Tryd.f15 []) = [.loop (loopIn 0 (lp Tryd.f15 []))] ∧ WP Tryd.prog 0 (.block 0 (.loop (loopIn 0 (lp Tryd.f15 [])))) (loopS ref48_Join.L0 107 0 [.exit 0] ref48_Join.l0) :=
  loop_tree (L := ref48_Join.L0) (F := ({ quiet := Xs, deep := noDeep } : Fns)) (D := D0) (tab := []) (t := ref48_Join.t0) mixed Xok (deep_none _) (fun _ => rfl) (by kernel_rfl) (by kernel_rfl) trivial (fun x => by kernel_rfl)
def ref48_Join.L2 : List (Nat × Lay) := [(2, .box TScn), (3, .box TScn), (4, .box TScn), (5, .obx [.own TMatD, .own TTriD, .own TLitD, .dat TI, .own TP, .dat TCam, .dat TI, .dat TI]), (8, .val TI)]
noncomputable def ref48_Join.t2 (x : ((List ((Int × Int × Int) × (Int × Int × Int) × Int)) × (List ((Int × Int × Int) × (Int × Int × Int) × (Int × Int × Int) × Int)) × (List (Int × Int × Int × Int)) × Int × (List (Int × Int × Int)) × ((Int × Int × Int) × (Int × Int × Int) × (Int × Int × Int) × Int × Int × Int) × Int × Int) × ((List ((Int × Int × Int) × (Int × Int × Int) × Int)) × (List ((Int × Int × Int) × (Int × Int × Int) × (Int × Int × Int) × Int)) × (List (Int × Int × Int × Int)) × Int × (List (Int × Int × Int)) × ((Int × Int × Int) × (Int × Int × Int) × (Int × Int × Int) × Int × Int × Int) × Int × Int) × ((List ((Int × Int × Int) × (Int × Int × Int) × Int)) × (List ((Int × Int × Int) × (Int × Int × Int) × (Int × Int × Int) × Int)) × (List (Int × Int × Int × Int)) × Int × (List (Int × Int × Int)) × ((Int × Int × Int) × (Int × Int × Int) × (Int × Int × Int) × Int × Int × Int) × Int × Int) × (List ((Int × Int × Int) × (Int × Int × Int) × Int) × List ((Int × Int × Int) × (Int × Int × Int) × (Int × Int × Int) × Int) × List (Int × Int × Int × Int) × Int × List (Int × Int × Int) × ((Int × Int × Int) × (Int × Int × Int) × (Int × Int × Int) × Int × Int × Int) × Int × Int × Unit) × Int × Unit) : T (Ex × ((List ((Int × Int × Int) × (Int × Int × Int) × Int)) × (List ((Int × Int × Int) × (Int × Int × Int) × (Int × Int × Int) × Int)) × (List (Int × Int × Int × Int)) × Int × (List (Int × Int × Int)) × ((Int × Int × Int) × (Int × Int × Int) × (Int × Int × Int) × Int × Int × Int) × Int × Int) × ((List ((Int × Int × Int) × (Int × Int × Int) × Int)) × (List ((Int × Int × Int) × (Int × Int × Int) × (Int × Int × Int) × Int)) × (List (Int × Int × Int × Int)) × Int × (List (Int × Int × Int)) × ((Int × Int × Int) × (Int × Int × Int) × (Int × Int × Int) × Int × Int × Int) × Int × Int) × ((List ((Int × Int × Int) × (Int × Int × Int) × Int)) × (List ((Int × Int × Int) × (Int × Int × Int) × (Int × Int × Int) × Int)) × (List (Int × Int × Int × Int)) × Int × (List (Int × Int × Int)) × ((Int × Int × Int) × (Int × Int × Int) × (Int × Int × Int) × Int × Int × Int) × Int × Int) × (List ((Int × Int × Int) × (Int × Int × Int) × Int) × List ((Int × Int × Int) × (Int × Int × Int) × (Int × Int × Int) × Int) × List (Int × Int × Int × Int) × Int × List (Int × Int × Int) × ((Int × Int × Int) × (Int × Int × Int) × (Int × Int × Int) × Int × Int × Int) × Int × Int × Unit) × Int × Unit) := T.ite (decide (x.2.2.2.2.1 < (↑(List.length x.2.1.2.2.1) : Int))) (T.opt (lget x.2.1.2.2.1 x.2.2.2.2.1) fun y => T.opt (lget x.2.1.2.2.1 x.2.2.2.2.1) fun y_1 => T.ite (decide ((x.2.2.2.1.2.2.1.length + (1 : Nat)) * nat_lit 32 ≤ most)) (T.ret (Ex.normal, x.1, x.2.1, x.2.2.1, (List.take x.2.2.2.1.1.length x.2.2.2.1.1, List.take x.2.2.2.1.2.1.length x.2.2.2.1.2.1, List.take (x.2.2.2.1.2.2.1.length + (1 : Nat)) (List.take x.2.2.2.1.2.2.1.length x.2.2.2.1.2.2.1 ++ [(W (y.1 + (↑(List.length x.1.2.1) : Int)), y_1.snd)]), x.2.2.2.1.2.2.2.1, List.take x.2.2.2.1.2.2.2.2.1.length x.2.2.2.1.2.2.2.2.1, x.2.2.2.1.2.2.2.2.2.1, x.2.2.2.1.2.2.2.2.2.2.1, x.2.2.2.1.2.2.2.2.2.2.2.1, ()), W (x.2.2.2.2.1 + (1 : Int)), ())) T.fail) (T.ret (Ex.exit (2 : Nat), x.1, x.2.1, x.2.2.1, (List.take x.2.2.2.1.1.length x.2.2.2.1.1, List.take x.2.2.2.1.2.1.length x.2.2.2.1.2.1, List.take x.2.2.2.1.2.2.1.length x.2.2.2.1.2.2.1, x.2.2.2.1.2.2.2.1, List.take x.2.2.2.1.2.2.2.2.1.length x.2.2.2.1.2.2.2.2.1, x.2.2.2.1.2.2.2.2.2.1, x.2.2.2.1.2.2.2.2.2.2.1, x.2.2.2.1.2.2.2.2.2.2.2.1, ()), x.2.2.2.2.1, ()))
noncomputable def ref48_Join.l2 (x : ((List ((Int × Int × Int) × (Int × Int × Int) × Int)) × (List ((Int × Int × Int) × (Int × Int × Int) × (Int × Int × Int) × Int)) × (List (Int × Int × Int × Int)) × Int × (List (Int × Int × Int)) × ((Int × Int × Int) × (Int × Int × Int) × (Int × Int × Int) × Int × Int × Int) × Int × Int) × ((List ((Int × Int × Int) × (Int × Int × Int) × Int)) × (List ((Int × Int × Int) × (Int × Int × Int) × (Int × Int × Int) × Int)) × (List (Int × Int × Int × Int)) × Int × (List (Int × Int × Int)) × ((Int × Int × Int) × (Int × Int × Int) × (Int × Int × Int) × Int × Int × Int) × Int × Int) × ((List ((Int × Int × Int) × (Int × Int × Int) × Int)) × (List ((Int × Int × Int) × (Int × Int × Int) × (Int × Int × Int) × Int)) × (List (Int × Int × Int × Int)) × Int × (List (Int × Int × Int)) × ((Int × Int × Int) × (Int × Int × Int) × (Int × Int × Int) × Int × Int × Int) × Int × Int) × (List ((Int × Int × Int) × (Int × Int × Int) × Int) × List ((Int × Int × Int) × (Int × Int × Int) × (Int × Int × Int) × Int) × List (Int × Int × Int × Int) × Int × List (Int × Int × Int) × ((Int × Int × Int) × (Int × Int × Int) × (Int × Int × Int) × Int × Int × Int) × Int × Int × Unit) × Int × Unit) : Option (Ex × ((List ((Int × Int × Int) × (Int × Int × Int) × Int)) × (List ((Int × Int × Int) × (Int × Int × Int) × (Int × Int × Int) × Int)) × (List (Int × Int × Int × Int)) × Int × (List (Int × Int × Int)) × ((Int × Int × Int) × (Int × Int × Int) × (Int × Int × Int) × Int × Int × Int) × Int × Int) × ((List ((Int × Int × Int) × (Int × Int × Int) × Int)) × (List ((Int × Int × Int) × (Int × Int × Int) × (Int × Int × Int) × Int)) × (List (Int × Int × Int × Int)) × Int × (List (Int × Int × Int)) × ((Int × Int × Int) × (Int × Int × Int) × (Int × Int × Int) × Int × Int × Int) × Int × Int) × ((List ((Int × Int × Int) × (Int × Int × Int) × Int)) × (List ((Int × Int × Int) × (Int × Int × Int) × (Int × Int × Int) × Int)) × (List (Int × Int × Int × Int)) × Int × (List (Int × Int × Int)) × ((Int × Int × Int) × (Int × Int × Int) × (Int × Int × Int) × Int × Int × Int) × Int × Int) × (List ((Int × Int × Int) × (Int × Int × Int) × Int) × List ((Int × Int × Int) × (Int × Int × Int) × (Int × Int × Int) × Int) × List (Int × Int × Int × Int) × Int × List (Int × Int × Int) × ((Int × Int × Int) × (Int × Int × Int) × (Int × Int × Int) × Int × Int × Int) × Int × Int × Unit) × Int × Unit) := (iterT ref48_Join.t2 rounds x).run
theorem ref48_Join.k2 : bodies 2 (lp Tryd.f15 []) = [.loop (loopIn 2 (lp Tryd.f15 []))] ∧ WP Tryd.prog 0 (.block 2 (.loop (loopIn 2 (lp Tryd.f15 [])))) (loopS ref48_Join.L2 107 2 [.exit 2] ref48_Join.l2) :=
  loop_tree (L := ref48_Join.L2) (F := ({ quiet := Xs, deep := noDeep } : Fns)) (D := D0) (tab := []) (t := ref48_Join.t2) mixed Xok (deep_none _) (fun _ => rfl) (by kernel_rfl) (by kernel_rfl) trivial (fun x => by kernel_rfl)
noncomputable def ref48_Join.t (x : ((List ((Int × Int × Int) × (Int × Int × Int) × Int)) × (List ((Int × Int × Int) × (Int × Int × Int) × (Int × Int × Int) × Int)) × (List (Int × Int × Int × Int)) × Int × (List (Int × Int × Int)) × ((Int × Int × Int) × (Int × Int × Int) × (Int × Int × Int) × Int × Int × Int) × Int × Int) × ((List ((Int × Int × Int) × (Int × Int × Int) × Int)) × (List ((Int × Int × Int) × (Int × Int × Int) × (Int × Int × Int) × Int)) × (List (Int × Int × Int × Int)) × Int × (List (Int × Int × Int)) × ((Int × Int × Int) × (Int × Int × Int) × (Int × Int × Int) × Int × Int × Int) × Int × Int)) : T (((List ((Int × Int × Int) × (Int × Int × Int) × Int)) × (List ((Int × Int × Int) × (Int × Int × Int) × (Int × Int × Int) × Int)) × (List (Int × Int × Int × Int)) × Int × (List (Int × Int × Int)) × ((Int × Int × Int) × (Int × Int × Int) × (Int × Int × Int) × Int × Int × Int) × Int × Int)) := T.ite (decide (((0 : Nat) + List.length x.1.1) * nat_lit 56 ≤ most)) (T.ite (decide (((0 : Nat) + List.length x.1.1 + List.length x.2.1) * nat_lit 56 ≤ most)) (T.ite (decide (((0 : Nat) + List.length x.1.2.1) * nat_lit 80 ≤ most)) (T.opt (ref48_Join.l0 (x.1, x.2, ([], [], [], (0 : Int), [], (((0 : Int), (0 : Int), (0 : Int)), ((0 : Int), (0 : Int), (0 : Int)), ((0 : Int), (0 : Int), (0 : Int)), (0 : Int), (0 : Int), (0 : Int)), (0 : Int), (0 : Int)), (List.take ((0 : Nat) + List.length x.1.1 + List.length x.2.1) (List.take ((0 : Nat) + List.length x.1.1) (List.take (0 : Nat) [] ++ x.1.1) ++ x.2.1), List.take ((0 : Nat) + List.length x.1.2.1) (List.take (0 : Nat) [] ++ x.1.2.1), [], W (x.1.2.2.2.1 + x.2.2.2.2.1), [], x.1.2.2.2.2.2.1, x.1.2.2.2.2.2.2.1, x.1.2.2.2.2.2.2.2, ()), (0 : Int), ())) fun y => T.ite (exEq y.1 (Ex.exit (0 : Nat))) (T.ite (decide (((0 : Nat) + List.length y.2.1.2.2.1) * nat_lit 32 ≤ most)) (T.opt (ref48_Join.l2 (y.2.1, y.2.2.1, y.2.2.2.1, (List.take y.2.2.2.2.1.1.length y.2.2.2.2.1.1, List.take y.2.2.2.2.1.2.1.length y.2.2.2.2.1.2.1, List.take ((0 : Nat) + List.length y.2.1.2.2.1) (List.take (0 : Nat) [] ++ y.2.1.2.2.1), y.2.2.2.2.1.2.2.2.1, List.take y.2.2.2.2.1.2.2.2.2.1.length y.2.2.2.2.1.2.2.2.2.1, y.2.2.2.2.1.2.2.2.2.2.1, y.2.2.2.2.1.2.2.2.2.2.2.1, y.2.2.2.2.1.2.2.2.2.2.2.2.1, ()), (0 : Int), ())) fun y => T.ite (exEq y.1 (Ex.exit (2 : Nat))) (T.ite (decide (((0 : Nat) + List.length y.2.1.2.2.2.2.1) * nat_lit 24 ≤ most)) (T.ite (decide (((0 : Nat) + List.length y.2.1.2.2.2.2.1 + List.length y.2.2.1.2.2.2.2.1) * nat_lit 24 ≤ most)) (T.ret (List.take y.2.2.2.2.1.1.length y.2.2.2.2.1.1, List.take y.2.2.2.2.1.2.1.length y.2.2.2.2.1.2.1, List.take y.2.2.2.2.1.2.2.1.length y.2.2.2.2.1.2.2.1, y.2.2.2.2.1.2.2.2.1, List.take ((0 : Nat) + List.length y.2.1.2.2.2.2.1 + List.length y.2.2.1.2.2.2.2.1) (List.take ((0 : Nat) + List.length y.2.1.2.2.2.2.1) (List.take (0 : Nat) [] ++ y.2.1.2.2.2.2.1) ++ y.2.2.1.2.2.2.2.1), y.2.2.2.2.1.2.2.2.2.2.1, y.2.2.2.2.1.2.2.2.2.2.2.1, y.2.2.2.2.1.2.2.2.2.2.2.2.1)) T.fail) T.fail) T.fail) T.fail) T.fail) T.fail) T.fail) T.fail
noncomputable def ref48_Join (x : ((List ((Int × Int × Int) × (Int × Int × Int) × Int)) × (List ((Int × Int × Int) × (Int × Int × Int) × (Int × Int × Int) × Int)) × (List (Int × Int × Int × Int)) × Int × (List (Int × Int × Int)) × ((Int × Int × Int) × (Int × Int × Int) × (Int × Int × Int) × Int × Int × Int) × Int × Int) × ((List ((Int × Int × Int) × (Int × Int × Int) × Int)) × (List ((Int × Int × Int) × (Int × Int × Int) × (Int × Int × Int) × Int)) × (List (Int × Int × Int × Int)) × Int × (List (Int × Int × Int)) × ((Int × Int × Int) × (Int × Int × Int) × (Int × Int × Int) × Int × Int × Int) × Int × Int)) : Option (((List ((Int × Int × Int) × (Int × Int × Int) × Int)) × (List ((Int × Int × Int) × (Int × Int × Int) × (Int × Int × Int) × Int)) × (List (Int × Int × Int × Int)) × Int × (List (Int × Int × Int)) × ((Int × Int × Int) × (Int × Int × Int) × (Int × Int × Int) × Int × Int × Int) × Int × Int)) := (ref48_Join.t x).run
noncomputable def ref48_Join.q : List AV → T AV := entry [TScn, TScn] (outR [TScn]) fun x => .opt (ref48_Join x) .ret
theorem ref48_Join.ok : FnOK Tryd.prog 15 ref48_Join.q :=
  entry_call (ps := [TScn, TScn]) (rs := [TScn]) (F := ({ quiet := Xs, deep := noDeep } : Fns)) (D := D0) (S := tabS [(0, loopS ref48_Join.L0 107 0 [.exit 0] ref48_Join.l0), (2, loopS ref48_Join.L2 107 2 [.exit 2] ref48_Join.l2)]) (t := ref48_Join.t) mixed Xok (deep_none _) Tryd.func15 (by kernel_rfl) (sok_fn ⟨ref48_Join.k0, ref48_Join.k2, trivial⟩) (by kernel_rfl) (fun x => by kernel_rfl)
end Go.Proofs.Pen

namespace Go.Proofs.Pen
open Go Go.Proofs
noncomputable def law48_MergeJoins.t (x : ((List ((Int × Int × Int) × (Int × Int × Int) × Int)) × (List ((Int × Int × Int) × (Int × Int × Int) × (Int × Int × Int) × Int)) × (List (Int × Int × Int × Int)) × Int × (List (Int × Int × Int)) × ((Int × Int × Int) × (Int × Int × Int) × (Int × Int × Int) × Int × Int × Int) × Int × Int) × ((List ((Int × Int × Int) × (Int × Int × Int) × Int)) × (List ((Int × Int × Int) × (Int × Int × Int) × (Int × Int × Int) × Int)) × (List (Int × Int × Int × Int)) × Int × (List (Int × Int × Int)) × ((Int × Int × Int) × (Int × Int × Int) × (Int × Int × Int) × Int × Int × Int) × Int × Int)) : T (Bool) := T.ite (!(decide ((↑x.1.1.length : Int) ≤ (40 : Int)) && decide ((↑x.1.2.1.length : Int) ≤ (60 : Int)) && decide ((↑x.1.2.2.1.length : Int) ≤ (60 : Int)) && decide ((↑x.1.2.2.2.2.1.length : Int) ≤ (200 : Int)))) (T.ret true) (T.ite (!(decide ((↑x.2.1.length : Int) ≤ (40 : Int)) && decide ((↑x.2.2.1.length : Int) ≤ (60 : Int)) && decide ((↑x.2.2.2.1.length : Int) ≤ (60 : Int)) && decide ((↑x.2.2.2.2.2.1.length : Int) ≤ (200 : Int)))) (T.ret true) (T.opt (merge_Join x) fun y => T.opt (ref22_Check x.1) fun y_1 => T.ite (y_1.fst == (0 : Int) && (y_1.snd.fst == (0 : Int) && y_1.snd.snd == (0 : Int))) (T.opt (ref22_Check x.2) fun y_2 => T.ite (!(y_2.fst == (0 : Int) && (y_2.snd.fst == (0 : Int) && y_2.snd.snd == (0 : Int)))) (T.ite true (T.opt (law48_wrong (y.2, y_2)) fun y_3 => T.ite y_3 (T.opt (ref22_Same (y.1, [], [], [], (0 : Int), [], (((0 : Int), (0 : Int), (0 : Int)), ((0 : Int), (0 : Int), (0 : Int)), ((0 : Int), (0 : Int), (0 : Int)), (0 : Int), (0 : Int), (0 : Int)), (0 : Int), (0 : Int))) fun y => T.ret y) (T.ret false)) (T.ret false)) (T.ite (decide (W ((↑(List.length x.1.1) : Int) + (↑(List.length x.2.1) : Int)) > (32 : Int)) || decide (W ((↑(List.length x.1.2.1) : Int) + (↑(List.length x.2.2.1) : Int)) > (512 : Int))) (T.ite true (T.ite (ErrD.top y.2 == (4 : Int)) (T.opt (merge_Broken y.2) fun y => T.ret !y) (T.ret false)) (T.ret false)) (T.ite (decide (x.1.2.2.2.1 > (0 : Int)) && decide (x.2.2.2.2.1 > (0 : Int))) (T.ite true (T.ite (ErrD.top y.2 == (2 : Int)) (T.opt (ref22_Same (y.1, [], [], [], (0 : Int), [], (((0 : Int), (0 : Int), (0 : Int)), ((0 : Int), (0 : Int), (0 : Int)), ((0 : Int), (0 : Int), (0 : Int)), (0 : Int), (0 : Int), (0 : Int)), (0 : Int), (0 : Int))) fun y => T.ret y) (T.ret false)) (T.ret false)) (T.ite (ErrD.isNil y.2) (T.opt (ref48_Join x) fun y_3 => T.opt (ref22_Same (y.1, y_3)) fun y_4 => T.ite y_4 (T.opt (ref22_Check y.1) fun y => T.ret (y.1 == (0 : Int) && (y.2.1 == (0 : Int) && y.2.2 == (0 : Int)))) (T.ret false)) (T.ret false))))) (T.ite (!(y_1.fst == (0 : Int) && (y_1.snd.fst == (0 : Int) && y_1.snd.snd == (0 : Int)))) (T.ite true (T.opt (law48_wrong (y.2, y_1)) fun y_2 => T.ite y_2 (T.opt (ref22_Same (y.1, [], [], [], (0 : Int), [], (((0 : Int), (0 : Int), (0 : Int)), ((0 : Int), (0 : Int), (0 : Int)), ((0 : Int), (0 : Int), (0 : Int)), (0 : Int), (0 : Int), (0 : Int)), (0 : Int), (0 : Int))) fun y => T.ret y) (T.ret false)) (T.ret false)) (T.ite (decide (W ((↑(List.length x.1.1) : Int) + (↑(List.length x.2.1) : Int)) > (32 : Int)) || decide (W ((↑(List.length x.1.2.1) : Int) + (↑(List.length x.2.2.1) : Int)) > (512 : Int))) (T.ite true (T.ite (ErrD.top y.2 == (4 : Int)) (T.opt (merge_Broken y.2) fun y => T.ret !y) (T.ret false)) (T.ret false)) (T.ite (decide (x.1.2.2.2.1 > (0 : Int)) && decide (x.2.2.2.2.1 > (0 : Int))) (T.ite true (T.ite (ErrD.top y.2 == (2 : Int)) (T.opt (ref22_Same (y.1, [], [], [], (0 : Int), [], (((0 : Int), (0 : Int), (0 : Int)), ((0 : Int), (0 : Int), (0 : Int)), ((0 : Int), (0 : Int), (0 : Int)), (0 : Int), (0 : Int), (0 : Int)), (0 : Int), (0 : Int))) fun y => T.ret y) (T.ret false)) (T.ret false)) (T.ite (ErrD.isNil y.2) (T.opt (ref48_Join x) fun y_2 => T.opt (ref22_Same (y.1, y_2)) fun y_3 => T.ite y_3 (T.opt (ref22_Check y.1) fun y => T.ret (y.1 == (0 : Int) && (y.2.1 == (0 : Int) && y.2.2 == (0 : Int)))) (T.ret false)) (T.ret false)))))))
noncomputable def law48_MergeJoins (x : ((List ((Int × Int × Int) × (Int × Int × Int) × Int)) × (List ((Int × Int × Int) × (Int × Int × Int) × (Int × Int × Int) × Int)) × (List (Int × Int × Int × Int)) × Int × (List (Int × Int × Int)) × ((Int × Int × Int) × (Int × Int × Int) × (Int × Int × Int) × Int × Int × Int) × Int × Int) × ((List ((Int × Int × Int) × (Int × Int × Int) × Int)) × (List ((Int × Int × Int) × (Int × Int × Int) × (Int × Int × Int) × Int)) × (List (Int × Int × Int × Int)) × Int × (List (Int × Int × Int)) × ((Int × Int × Int) × (Int × Int × Int) × (Int × Int × Int) × Int × Int × Int) × Int × Int)) : Option (Bool) := (law48_MergeJoins.t x).run
noncomputable def law48_MergeJoins.q : List AV → T AV := entry [TScn, TScn] (outR [.bool]) fun x => .opt (law48_MergeJoins x) .ret
theorem law48_MergeJoins.ok : FnOK Tryd.prog 3 law48_MergeJoins.q :=
  entry_call (ps := [TScn, TScn]) (rs := [.bool]) (F := ({ quiet := (ext (ext (ext (ext (ext (ext (ext (ext (ext (ext (ext Xs 7 law22_Light.q) 8 law48_awake.q) 9 merge_Join.q) 10 ref22_Check.q) 11 law48_wrong.q) 12 ref22_Same.q) 14 merge_Broken.q) 15 ref48_Join.q) 29 merge_Join_1.q) 68 scene_lights_1.q) 72 scene_within_1.q), deep := noDeep } : Fns)) (D := D0) (S := tabS []) (t := law48_MergeJoins.t) mixed (quiet_ext (quiet_ext (quiet_ext (quiet_ext (quiet_ext (quiet_ext (quiet_ext (quiet_ext (quiet_ext (quiet_ext (quiet_ext Xok law22_Light.ok) law48_awake.ok) merge_Join.ok) ref22_Check.ok) law48_wrong.ok) ref22_Same.ok) merge_Broken.ok) ref48_Join.ok) merge_Join_1.ok) scene_lights_1.ok) scene_within_1.ok) (deep_none _) Tryd.func3 (by kernel_rfl) (sok_fn trivial) (by kernel_rfl) (fun x => by kernel_rfl)
end Go.Proofs.Pen

namespace Go.Proofs.Pen
open Go Go.Proofs

def shT (n : Int) (t : TriT) : TriT := (t.1, t.2.1, t.2.2.1, t.2.2.2 + n)
def shL (n : Int) (l : LitT) : LitT := (l.1 + n, l.2)
def joinS (a b : ScT) : ScT := (a.1 ++ b.1, a.2.1 ++ b.2.1.map (shT a.1.length), a.2.2.1 ++ b.2.2.1.map (shL a.2.1.length), a.2.2.2.1 + b.2.2.2.1, a.2.2.2.2.1 ++ b.2.2.2.2.1, a.2.2.2.2.2.1, a.2.2.2.2.2.2.1, a.2.2.2.2.2.2.2)

theorem Join_checks (a b : ScT) (ha : lightB a) (hb : lightB b) : merge_Join.l0 (a, b, ZS, .nil, List.take 2 [a, b], ((2 : Nat) : Int), 0, ()) =
    some (match wr a with
      | some w => (.ret, a, b, ZS, mkErr (some w), [a, b], 2, 0, ())
      | none => match wr b with
        | some w => (.ret, a, b, ZS, mkErr (some w), [a, b], 2, 1, ())
        | none => (.exit 0, a, b, ZS, .nil, [a, b], 2, 2, ())) := by
  let f : Nat → Option W3 := fun i => match i with | 0 => wr a | _ => wr b
  have key := iter_first (t := merge_Join.t0) (fun k => (a, b, ZS, .nil, [a, b], 2, (k : Int), ())) f (fun k w => (a, b, ZS, mkErr (some w), [a, b], 2, (k : Int), ())) (e := .exit 0) (z := (a, b, ZS, .nil, [a, b], 2, 2, ())) (by simp) 2 0 rounds
    (fun k _ hk hf => by
      have : k = 0 ∨ k = 1 := by omega
      rcases this with rfl | rfl
      · have hf : wr a = none := hf
        unfold merge_Join.t0
        dsimp only
        rw [tr_yes (by rfl), tr_yes (by rfl), tr_opt, show ([a, b] : List ScT)[0 + Int.toNat ((0 : Nat) : Int)]? = some a from rfl, Option.bind_some, tr_opt, Check_eq a ha, Option.bind_some, hf, tr_no (by rfl), tr_ret]; rfl
      · have hf : wr b = none := hf
        unfold merge_Join.t0
        dsimp only
        rw [tr_yes (by rfl), tr_yes (by rfl), tr_opt, show ([a, b] : List ScT)[0 + Int.toNat ((1 : Nat) : Int)]? = some b from rfl, Option.bind_some, tr_opt, Check_eq b hb, Option.bind_some, hf, tr_no (by rfl), tr_ret]; rfl)
    (fun k w _ hk hf => by
      have : k = 0 ∨ k = 1 := by omega
      rcases this with rfl | rfl
      · have hf : wr a = some w := hf
        unfold merge_Join.t0
        dsimp only
        rw [tr_yes (by rfl), tr_yes (by rfl), tr_opt, show ([a, b] : List ScT)[0 + Int.toNat ((0 : Nat) : Int)]? = some a from rfl, Option.bind_some, tr_opt, Check_eq a ha, Option.bind_some, hf, tr_yes (by rfl), tr_ret]; rfl
      · have hf : wr b = some w := hf
        unfold merge_Join.t0
        dsimp only
        rw [tr_yes (by rfl), tr_yes (by rfl), tr_opt, show ([a, b] : List ScT)[0 + Int.toNat ((1 : Nat) : Int)]? = some b from rfl, Option.bind_some, tr_opt, Check_eq b hb, Option.bind_some, hf, tr_yes (by rfl), tr_ret]; rfl)
    (by
      unfold merge_Join.t0
      dsimp only
      rw [tr_no (by rfl), tr_ret]; rfl)
    (rounds_gt (by omega))
  have e0 : merge_Join.l0 (a, b, ZS, .nil, List.take 2 [a, b], ((2 : Nat) : Int), 0, ()) = _ := key
  rw [e0]
  have f0 : f 0 = wr a := rfl
  have f1 : f 1 = wr b := rfl
  simp only [firstF, f0, f1]
  cases wr a with
  | some w => rfl
  | none => cases wr b <;> rfl

theorem Join_l2 (a b : ScT) (M : List MatT) (L : List LitT) (z : Int) (C : List W3) (c : CamT) (k h : Int) (ha : a.1.length ≤ 900) (hA : a.2.1.length ≤ 900) (hB : b.2.1.length ≤ 900) (hb : ∀ t ∈ b.2.1, triG b.1.length t) (hbb : b.1.length ≤ 900) :
    merge_Join.l2 (a, b, ZS, (M, a.2.1, L, z, C, c, k, h, ()), b.2.1, (b.2.1.length : Int), 0, ()) = some (.exit 2, a, b, ZS, (M, a.2.1 ++ b.2.1.map (shT a.1.length), L, z, C, c, k, h, ()), b.2.1, (b.2.1.length : Int), (b.2.1.length : Int), ()) := by
  have key := iter_count (t := merge_Join.t2) (fun i => (a, b, ZS, (M, a.2.1 ++ (b.2.1.take i).map (shT a.1.length), L, z, C, c, k, h, ()), b.2.1, (b.2.1.length : Int), (i : Int), ())) (e := .exit 2)
    (z := (a, b, ZS, (M, a.2.1 ++ (b.2.1.take b.2.1.length).map (shT a.1.length), L, z, C, c, k, h, ()), b.2.1, (b.2.1.length : Int), (b.2.1.length : Int), ())) (by simp) b.2.1.length 0 rounds
    (fun i _ hi => by
      have hi : i < b.2.1.length := by omega
      obtain ⟨g1, g2, _⟩ := hb _ (List.getElem_mem hi)
      have hlen : (a.2.1 ++ (b.2.1.take i).map (shT a.1.length)).length ≤ 2000 := by rw [List.length_append, List.length_map, List.length_take]; omega
      unfold merge_Join.t2
      simp only [tr_ite, tr_ret, tr_opt, decide_eq_true_eq]
      rw [if_pos (by omega), lget_nat _ hi, Option.bind_some, if_pos (room (by omega) (by omega)), W_succ (by omega), take_all, W_id (n := b.2.1[i].2.2.2 + _) (by omega) (by omega), List.append_assoc, List.take_length, List.take_length, List.take_length]
      rw [show [(b.2.1[i].1, b.2.1[i].2.1, b.2.1[i].2.2.1, b.2.1[i].2.2.2 + (a.1.length : Int))] = [shT a.1.length b.2.1[i]] from rfl, map_takeS _ _ hi])
    (by
      unfold merge_Join.t2
      simp only [tr_ite, tr_ret, decide_eq_true_eq]
      rw [if_neg (by omega), Nat.zero_add, List.take_length, List.take_length, List.take_length, List.take_length, List.take_length])
    (rounds_gt (by omega))
  simp only [List.take_zero, List.map_nil, List.append_nil, List.take_length] at key
  exact key

theorem Join_l4 (a b : ScT) (M : List MatT) (T : List TriT) (L : List LitT) (z : Int) (C : List W3) (c : CamT) (k h : Int) (hA : a.2.1.length ≤ 900) (hL : L.length ≤ 900) (hB : b.2.2.1.length ≤ 900) (hb : ∀ t ∈ b.2.2.1, litG b.2.1.length t) (hbb : b.2.1.length ≤ 900) :
    merge_Join.l4 (a, b, ZS, (M, T, L, z, C, c, k, h, ()), b.2.2.1, (b.2.2.1.length : Int), 0, ()) = some (.exit 4, a, b, ZS, (M, T, L ++ b.2.2.1.map (shL a.2.1.length), z, C, c, k, h, ()), b.2.2.1, (b.2.2.1.length : Int), (b.2.2.1.length : Int), ()) := by
  have key := iter_count (t := merge_Join.t4) (fun i => (a, b, ZS, (M, T, L ++ (b.2.2.1.take i).map (shL a.2.1.length), z, C, c, k, h, ()), b.2.2.1, (b.2.2.1.length : Int), (i : Int), ())) (e := .exit 4)
    (z := (a, b, ZS, (M, T, L ++ (b.2.2.1.take b.2.2.1.length).map (shL a.2.1.length), z, C, c, k, h, ()), b.2.2.1, (b.2.2.1.length : Int), (b.2.2.1.length : Int), ())) (by simp) b.2.2.1.length 0 rounds
    (fun i _ hi => by
      have hi : i < b.2.2.1.length := by omega
      obtain ⟨g1, g2, _⟩ := hb _ (List.getElem_mem hi)
      have hlen : (L ++ (b.2.2.1.take i).map (shL a.2.1.length)).length ≤ 2000 := by rw [List.length_append, List.length_map, List.length_take]; omega
      unfold merge_Join.t4
      simp only [tr_ite, tr_ret, tr_opt, decide_eq_true_eq]
      rw [if_pos (by omega), lget_nat _ hi, Option.bind_some, if_pos (room (by omega) (by omega)), W_succ (by omega), take_all, W_id (n := b.2.2.1[i].1 + _) (by omega) (by omega), List.append_assoc, List.take_length, List.take_length, List.take_length]
      rw [show [(b.2.2.1[i].1 + (a.2.1.length : Int), b.2.2.1[i].2)] = [shL a.2.1.length b.2.2.1[i]] from rfl, map_takeS _ _ hi])
    (by
      unfold merge_Join.t4
      simp only [tr_ite, tr_ret, decide_eq_true_eq]
      rw [if_neg (by omega), Nat.zero_add, List.take_length, List.take_length, List.take_length, List.take_length, List.take_length])
    (rounds_gt (by omega))
  simp only [List.take_zero, List.map_nil, List.append_nil, List.take_length] at key
  exact key

theorem nil_of {α : Type} {l : List α} (h : l.length = 0) : l = [] := List.length_eq_zero_iff.1 h

theorem MJoin_eq (a b : ScT) (ha : lightB a) (hb : lightB b) : merge_Join (a, b) = some (match wr a with
    | some w => (ZS, mkErr (some w))
    | none => match wr b with
      | some w => (ZS, mkErr (some w))
      | none => if (decide (((a.1.length + b.1.length : Nat) : Int) > 32) || decide (((a.2.1.length + b.2.1.length : Nat) : Int) > 512)) = true then (ZS, .fault 4 0 .nil)
        else if (decide (a.2.2.2.1 > 0) && decide (b.2.2.2.1 > 0)) = true then (ZS, .fault 2 0 .nil) else (joinS a b, .nil)) := by
  unfold merge_Join merge_Join.t
  dsimp only
  rw [tr_opt, Join_checks a b ha hb, Option.bind_some]
  cases hwa : wr a with
  | some w => rfl
  | none =>
  cases hwb : wr b with
  | some w => rfl
  | none =>
  obtain ⟨a1, a2, a3, a4⟩ := ha
  obtain ⟨b1, b2, b3, b4⟩ := hb
  obtain ⟨_, _, ta, la, _, ⟨za, ca⟩, _, _⟩ := wr_none.1 hwa
  obtain ⟨_, _, tb, lb, _, ⟨zb, cb⟩, _, _⟩ := wr_none.1 hwb
  dsimp only
  rw [tr_yes (by rfl), tr_ite, W_id (n := (a.1.length : Int) + _) (by omega) (by omega), W_id (n := (a.2.1.length : Int) + _) (by omega) (by omega)]
  have c1 : (a.1.length : Int) + (b.1.length : Int) = ((a.1.length + b.1.length : Nat) : Int) := by omega
  have c2 : (a.2.1.length : Int) + (b.2.1.length : Int) = ((a.2.1.length + b.2.1.length : Nat) : Int) := by omega
  rw [c1, c2]
  by_cases hbig : (decide (((a.1.length + b.1.length : Nat) : Int) > 32) || decide (((a.2.1.length + b.2.1.length : Nat) : Int) > 512)) = true
  · rw [if_pos hbig, if_pos hbig]; rfl
  rw [if_neg hbig, if_neg hbig, tr_ite]
  by_cases hz : (decide (a.2.2.2.1 > 0) && decide (b.2.2.2.1 > 0)) = true
  · rw [if_pos hz, if_pos hz]; rfl
  rw [if_neg hz, if_neg hz, tr_yes (decide_eq_true (small60 a1 (by omega))), tr_yes (decide_eq_true (small60 a2 (by omega))), tr_yes (decide_eq_true (small60 a3 (by omega))), tr_yes (decide_eq_true (small60 a4 (by omega))),
    tr_yes (decide_eq_true (show (a.1.length + b.1.length) * 56 ≤ most by unfold most; omega)), tr_opt]
  rw [List.take_length, List.take_length, List.take_length, List.take_length, List.take_of_length_le (l := a.1 ++ b.1) (by simp), Join_l2 a b _ _ _ _ _ _ _ a1 a2 b2 tb b1, Option.bind_some]
  dsimp only
  rw [tr_yes (by rfl), tr_opt, List.take_length, List.take_length, List.take_length, List.take_length, Join_l4 a b _ _ _ _ _ _ _ _ a2 a3 b3 lb b2, Option.bind_some]
  dsimp only
  rw [tr_yes (by rfl), List.take_length, List.take_length, List.take_length, List.take_length, List.take_length, tr_ite]
  unfold joinS
  by_cases hzb : b.2.2.2.1 > 0
  · rw [if_pos (decide_eq_true hzb), tr_yes (decide_eq_true (small60 b4 (by omega))), tr_ret]
    have hza : a.2.2.2.1 = 0 := by
      simp only [Bool.and_eq_true, decide_eq_true_eq] at hz
      omega
    rw [hza, nil_of (l := a.2.2.2.2.1) (by omega), Int.zero_add, List.nil_append]
  · rw [if_neg (by simpa using hzb), tr_ret]
    rw [show b.2.2.2.1 = 0 by omega, nil_of (l := b.2.2.2.2.1) (by omega), Int.add_zero, List.append_nil]

/-! ### The document's answer -/
theorem RJoin_l0 (a b : ScT) (M : List MatT) (L : List LitT) (z : Int) (C : List W3) (c : CamT) (k h : Int) (ha : a.1.length ≤ 900) (hA : a.2.1.length ≤ 900) (hB : b.2.1.length ≤ 900) (hb : ∀ t ∈ b.2.1, triG b.1.length t) (hbb : b.1.length ≤ 900) :
    ref48_Join.l0 (a, b, ZS, (M, a.2.1, L, z, C, c, k, h, ()), 0, ()) = some (.exit 0, a, b, ZS, (M, a.2.1 ++ b.2.1.map (shT a.1.length), L, z, C, c, k, h, ()), (b.2.1.length : Int), ()) := by
  have key := iter_count (t := ref48_Join.t0) (fun i => (a, b, ZS, (M, a.2.1 ++ (b.2.1.take i).map (shT a.1.length), L, z, C, c, k, h, ()), (i : Int), ())) (e := .exit 0)
    (z := (a, b, ZS, (M, a.2.1 ++ (b.2.1.take b.2.1.length).map (shT a.1.length), L, z, C, c, k, h, ()), (b.2.1.length : Int), ())) (by simp) b.2.1.length 0 rounds
    (fun i _ hi => by
      have hi : i < b.2.1.length := by omega
      obtain ⟨g1, g2, _⟩ := hb _ (List.getElem_mem hi)
      have hlen : (a.2.1 ++ (b.2.1.take i).map (shT a.1.length)).length ≤ 2000 := by rw [List.length_append, List.length_map, List.length_take]; omega
      unfold ref48_Join.t0
      simp only [tr_ite, tr_ret, tr_opt, decide_eq_true_eq]
      rw [if_pos (by omega), lget_nat _ hi, Option.bind_some, if_pos (room (by omega) (by omega)), W_succ (by omega), take_all, W_id (n := b.2.1[i].2.2.2 + _) (by omega) (by omega), List.append_assoc, List.take_length, List.take_length, List.take_length]
      rw [show [(b.2.1[i].1, b.2.1[i].2.1, b.2.1[i].2.2.1, b.2.1[i].2.2.2 + (a.1.length : Int))] = [shT a.1.length b.2.1[i]] from rfl, map_takeS _ _ hi])
    (by
      unfold ref48_Join.t0
      simp only [tr_ite, tr_ret, decide_eq_true_eq]
      rw [if_neg (by omega), Nat.zero_add, List.take_length, List.take_length, List.take_length, List.take_length, List.take_length])
    (rounds_gt (by omega))
  simp only [List.take_zero, List.map_nil, List.append_nil, List.take_length] at key
  exact key

theorem RJoin_l2 (a b : ScT) (M : List MatT) (T : List TriT) (L : List LitT) (z : Int) (C : List W3) (c : CamT) (k h : Int) (hA : a.2.1.length ≤ 900) (hL : L.length ≤ 900) (hB : b.2.2.1.length ≤ 900) (hb : ∀ t ∈ b.2.2.1, litG b.2.1.length t) (hbb : b.2.1.length ≤ 900) :
    ref48_Join.l2 (a, b, ZS, (M, T, L, z, C, c, k, h, ()), 0, ()) = some (.exit 2, a, b, ZS, (M, T, L ++ b.2.2.1.map (shL a.2.1.length), z, C, c, k, h, ()), (b.2.2.1.length : Int), ()) := by
  have key := iter_count (t := ref48_Join.t2) (fun i => (a, b, ZS, (M, T, L ++ (b.2.2.1.take i).map (shL a.2.1.length), z, C, c, k, h, ()), (i : Int), ())) (e := .exit 2)
    (z := (a, b, ZS, (M, T, L ++ (b.2.2.1.take b.2.2.1.length).map (shL a.2.1.length), z, C, c, k, h, ()), (b.2.2.1.length : Int), ())) (by simp) b.2.2.1.length 0 rounds
    (fun i _ hi => by
      have hi : i < b.2.2.1.length := by omega
      obtain ⟨g1, g2, _⟩ := hb _ (List.getElem_mem hi)
      have hlen : (L ++ (b.2.2.1.take i).map (shL a.2.1.length)).length ≤ 2000 := by rw [List.length_append, List.length_map, List.length_take]; omega
      unfold ref48_Join.t2
      simp only [tr_ite, tr_ret, tr_opt, decide_eq_true_eq]
      rw [if_pos (by omega), lget_nat _ hi, Option.bind_some, Option.bind_some, if_pos (room (by omega) (by omega)), W_succ (by omega), take_all, W_id (n := b.2.2.1[i].1 + _) (by omega) (by omega), List.append_assoc, List.take_length, List.take_length, List.take_length]
      rw [show [(b.2.2.1[i].1 + (a.2.1.length : Int), b.2.2.1[i].2)] = [shL a.2.1.length b.2.2.1[i]] from rfl, map_takeS _ _ hi])
    (by
      unfold ref48_Join.t2
      simp only [tr_ite, tr_ret, decide_eq_true_eq]
      rw [if_neg (by omega), Nat.zero_add, List.take_length, List.take_length, List.take_length, List.take_length, List.take_length])
    (rounds_gt (by omega))
  simp only [List.take_zero, List.map_nil, List.append_nil, List.take_length] at key
  exact key

theorem RJoin_eq (a b : ScT) (ha : lightB a) (hb : lightB b) (oa : okS a) (ob : okS b) : ref48_Join (a, b) = some (joinS a b) := by
  obtain ⟨a1, a2, a3, a4⟩ := ha
  obtain ⟨b1, b2, b3, b4⟩ := hb
  obtain ⟨_, _, ta, la, _, ⟨za, ca⟩, _, _⟩ := oa
  obtain ⟨_, _, tb, lb, _, ⟨zb, cb⟩, _, _⟩ := ob
  unfold ref48_Join ref48_Join.t
  dsimp only
  simp only [Nat.zero_add, List.take_zero, List.nil_append, List.take_length]
  rw [tr_yes (decide_eq_true (show a.1.length * 56 ≤ most from small60 a1 (by omega))), tr_yes (decide_eq_true (show (a.1.length + b.1.length) * 56 ≤ most by unfold most; omega)), tr_yes (decide_eq_true (show a.2.1.length * 80 ≤ most from small60 a2 (by omega))), tr_opt,
    List.take_of_length_le (l := a.1 ++ b.1) (by simp), RJoin_l0 a b _ _ _ _ _ _ _ a1 a2 b2 tb b1, Option.bind_some]
  dsimp only
  rw [tr_yes (by rfl), tr_yes (decide_eq_true (show a.2.2.1.length * 32 ≤ most from small60 a3 (by omega))), tr_opt]
  rw [RJoin_l2 a b _ _ _ _ _ _ _ _ a2 a3 b3 lb b2, Option.bind_some]
  dsimp only
  rw [tr_yes (by rfl), tr_yes (decide_eq_true (show a.2.2.2.2.1.length * 24 ≤ most from small60 a4 (by omega))), tr_yes (decide_eq_true (show (a.2.2.2.2.1.length + b.2.2.2.2.1.length) * 24 ≤ most by unfold most; omega)), tr_ret,
    List.take_of_length_le (l := a.2.2.2.2.1 ++ b.2.2.2.2.1) (by simp), W_id (by omega) (by omega)]
  rfl

theorem triG_sh {n m : Int} {t : TriT} (h : triG m t) (hn : 0 ≤ n) : triG (n + m) (shT n t) := by
  obtain ⟨h1, h2, h3⟩ := h
  exact ⟨by simp only [shT]; omega, by simp only [shT]; omega, h3⟩
theorem ok_join {a b : ScT} (ha : okS a) (hb : okS b) (h1 : a.1.length + b.1.length ≤ 32) (h2 : a.2.1.length + b.2.1.length ≤ 512) (h3 : a.2.2.1.length + b.2.2.1.length ≤ 512) (hz : a.2.2.2.1 = 0 ∨ b.2.2.2.1 = 0) : okS (joinS a b) := by
  obtain ⟨ga, ma, ta, la, na, ⟨za, ca⟩, ea, da⟩ := ha
  obtain ⟨gb, mb, tb, lb, nb, ⟨zb, cb⟩, eb, db⟩ := hb
  have ga := bigB_false.1 ga
  have gb := bigB_false.1 gb
  unfold joinS
  refine ⟨bigB_false.2 ⟨?_, ?_, ?_, ?_⟩, ?_, ?_, ?_, ?_, ⟨?_, ?_⟩, ?_, ?_⟩
  · simp; omega
  · simp; omega
  · simp; omega
  · dsimp only; omega
  · intro m hm
    rcases List.mem_append.1 hm with h | h
    · exact ma m h
    · exact mb m h
  · intro t ht
    dsimp only at ht ⊢
    rw [List.length_append, Int.natCast_add]
    rcases List.mem_append.1 ht with h | h
    · exact triG_up (ta t h) (by omega)
    · obtain ⟨u, hu, rfl⟩ := List.mem_map.1 h
      exact triG_sh (tb u hu) (by omega)
  · intro t ht
    dsimp only at ht ⊢
    rw [List.length_append, List.length_map, Int.natCast_add]
    rcases List.mem_append.1 ht with h | h
    · exact litG_up (la t h) (by omega)
    · obtain ⟨u, hu, rfl⟩ := List.mem_map.1 h
      obtain ⟨g1, g2, g3⟩ := lb u hu
      exact ⟨by simp only [shL]; omega, by simp only [shL]; omega, g3⟩
  · dsimp only
    rw [List.pairwise_append, List.pairwise_map]
    refine ⟨na, nb.imp fun {x y} h => ?_, fun x hx y hy => ?_⟩
    · simp only [shL]; omega
    · obtain ⟨u, hu, rfl⟩ := List.mem_map.1 hy
      have g1 := la x hx
      have g2 := lb u hu
      unfold litG at g1 g2
      simp only [shL]
      omega
  · dsimp only; omega
  · dsimp only; rw [List.length_append, Int.natCast_add]; omega
  · intro c hc
    rcases List.mem_append.1 hc with h | h
    · exact ea c h
    · exact eb c h
  · rw [← da]; exact cam_same rfl

theorem MergeJoins_law (a b : ScT) : (law48_MergeJoins.t (a, b)).run = some true := by
  unfold law48_MergeJoins.t
  dsimp only
  rw [tr_ite]
  by_cases hla : a.1.length ≤ 40 ∧ a.2.1.length ≤ 60 ∧ a.2.2.1.length ≤ 60 ∧ a.2.2.2.2.1.length ≤ 200
  case neg => rw [if_pos (by simp; omega), tr_ret]
  rw [if_neg (by simp; omega), tr_ite]
  by_cases hlb : b.1.length ≤ 40 ∧ b.2.1.length ≤ 60 ∧ b.2.2.1.length ≤ 60 ∧ b.2.2.2.2.1.length ≤ 200
  case neg => rw [if_pos (by simp; omega), tr_ret]
  have ha := lightOf hla
  have hb := lightOf hlb
  rw [if_neg (by simp; omega), tr_opt, MJoin_eq a b ha hb, Option.bind_some, tr_opt, RCheck_eq a ha, Option.bind_some, tr_ite, mkW_zero (fun w h => wr_ok h)]
  cases hwa : wr a with
  | some w =>
    have hok := wr_ok hwa
    rw [if_neg (by simp), tr_yes (show (!Option.isNone (some w)) = true from rfl), tr_yes (by rfl), tr_opt]
    dsimp only
    rw [wrong_eq hok, Option.bind_some, tr_yes rfl, tr_opt, Same_refl ZS lightZ, Option.bind_some, tr_ret]
  | none =>
    rw [if_pos (by rfl), tr_opt, RCheck_eq b hb, Option.bind_some, tr_ite, mkW_zero (fun w h => wr_ok h)]
    cases hwb : wr b with
    | some w =>
      have hok := wr_ok hwb
      rw [if_pos (by rfl), tr_yes (by rfl), tr_opt]
      dsimp only
      rw [wrong_eq hok, Option.bind_some, tr_yes rfl, tr_opt, Same_refl ZS lightZ, Option.bind_some, tr_ret]
    | none =>
      have oa := wr_none.1 hwa
      have ob := wr_none.1 hwb
      rw [if_neg (by simp), tr_ite, W_id (n := (a.1.length : Int) + _) (by omega) (by omega), W_id (n := (a.2.1.length : Int) + _) (by omega) (by omega)]
      have c1 : (a.1.length : Int) + (b.1.length : Int) = ((a.1.length + b.1.length : Nat) : Int) := by omega
      have c2 : (a.2.1.length : Int) + (b.2.1.length : Int) = ((a.2.1.length + b.2.1.length : Nat) : Int) := by omega
      rw [c1, c2]
      by_cases hbig : (decide (((a.1.length + b.1.length : Nat) : Int) > 32) || decide (((a.2.1.length + b.2.1.length : Nat) : Int) > 512)) = true
      · rw [if_pos hbig]
        dsimp only
        rw [if_pos hbig, tr_yes (by rfl), tr_yes (by rfl), tr_opt, Broken_eq _ (by rfl) (by simp [ErrD.depth]), Option.bind_some, tr_ret]
        rfl
      rw [if_neg hbig]
      dsimp only
      rw [if_neg hbig, tr_ite]
      by_cases hz : (decide (a.2.2.2.1 > 0) && decide (b.2.2.2.1 > 0)) = true
      · rw [if_pos hz, if_pos hz, tr_yes (by rfl), tr_yes (by rfl), tr_opt, Same_refl ZS lightZ, Option.bind_some, tr_ret]
      have hz' : a.2.2.2.1 = 0 ∨ b.2.2.2.1 = 0 := by
        have := oa.2.2.2.2.2.1.1
        have := ob.2.2.2.2.2.1.1
        simp only [Bool.and_eq_true, decide_eq_true_eq] at hz
        omega
      simp only [Bool.or_eq_true, decide_eq_true_eq] at hbig
      have hj := ok_join oa ob (by omega) (by omega) (by omega) hz'
      have hlj : lightB (joinS a b) := by
        unfold joinS lightB
        simp only [List.length_append, List.length_map]
        omega
      rw [if_neg hz, if_neg hz, tr_yes (by rfl), tr_opt, RJoin_eq a b ha hb oa ob, Option.bind_some, tr_opt, Same_refl _ hlj, Option.bind_some, tr_yes rfl, tr_opt, RCheck_eq _ hlj, Option.bind_some, tr_ret, wr_none.2 hj]
      rfl

theorem MergeJoins_all (x : dens [TScn, TScn]) (_ : insAll [TScn, TScn] x) : (law48_MergeJoins.t x).run = some true := MergeJoins_law x.1 x.2
end Go.Proofs.Pen
