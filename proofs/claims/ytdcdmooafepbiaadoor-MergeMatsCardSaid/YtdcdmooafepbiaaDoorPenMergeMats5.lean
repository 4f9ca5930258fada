/- A part of the proof that the law MergeMats is true of every input: models of the functions that the law reaches, and what holds of them. -/
import Derived.Test.YtdcdmooafepbiaaDoorPenKit0
import Derived.Test.YtdcdmooafepbiaaDoorPenKit1
import Derived.Test.YtdcdmooafepbiaaDoorPenKit2
import Derived.Test.YtdcdmooafepbiaaDoorPenKit3
import Derived.Test.YtdcdmooafepbiaaDoorPenMergeMats4
namespace Go.Proofs.Pen
open Go Go.Proofs
def ref22_Same.L0 : List (Nat × Lay) := [(2, .box TScn), (3, .box TScn), (4, .val .bool), (5, .val TI)]
noncomputable def ref22_Same.t0 (x : ((List ((Int × Int × Int) × (Int × Int × Int) × Int)) × (List ((Int × Int × Int) × (Int × Int × Int) × (Int × Int × Int) × Int)) × (List (Int × Int × Int × Int)) × Int × (List (Int × Int × Int)) × ((Int × Int × Int) × (Int × Int × Int) × (Int × Int × Int) × Int × Int × Int) × Int × Int) × ((List ((Int × Int × Int) × (Int × Int × Int) × Int)) × (List ((Int × Int × Int) × (Int × Int × Int) × (Int × Int × Int) × Int)) × (List (Int × Int × Int × Int)) × Int × (List (Int × Int × Int)) × ((Int × Int × Int) × (Int × Int × Int) × (Int × Int × Int) × Int × Int × Int) × Int × Int) × Bool × Int × Unit) : T (Ex × ((List ((Int × Int × Int) × (Int × Int × Int) × Int)) × (List ((Int × Int × Int) × (Int × Int × Int) × (Int × Int × Int) × Int)) × (List (Int × Int × Int × Int)) × Int × (List (Int × Int × Int)) × ((Int × Int × Int) × (Int × Int × Int) × (Int × Int × Int) × Int × Int × Int) × Int × Int) × ((List ((Int × Int × Int) × (Int × Int × Int) × Int)) × (List ((Int × Int × Int) × (Int × Int × Int) × (Int × Int × Int) × Int)) × (List (Int × Int × Int × Int)) × Int × (List (Int × Int × Int)) × ((Int × Int × Int) × (Int × Int × Int) × (Int × Int × Int) × Int × Int × Int) × Int × Int) × Bool × Int × Unit) := T.ite (decide (x.2.2.2.1 < (↑(List.length x.1.1) : Int))) (T.opt (lget x.1.1 x.2.2.2.1) fun y => T.opt (lget x.2.1.1 x.2.2.2.1) fun y_1 => T.ite (!(y.1.1 == y_1.fst.fst && (y.1.2.1 == y_1.fst.snd.fst && y.1.2.2 == y_1.fst.snd.snd) && (y.2.1.1 == y_1.snd.fst.fst && (y.2.1.2.1 == y_1.snd.fst.snd.fst && y.2.1.2.2 == y_1.snd.fst.snd.snd) && y.2.2 == y_1.snd.snd))) (T.ret (Ex.ret, x.1, x.2.1, false, x.2.2.2.1, ())) (T.ret (Ex.normal, x.1, x.2.1, x.2.2.1, W (x.2.2.2.1 + (1 : Int)), ()))) (T.ret (Ex.exit (0 : Nat), x.1, x.2.1, x.2.2.1, x.2.2.2.1, ()))
noncomputable def ref22_Same.l0 (x : ((List ((Int × Int × Int) × (Int × Int × Int) × Int)) × (List ((Int × Int × Int) × (Int × Int × Int) × (Int × Int × Int) × Int)) × (List (Int × Int × Int × Int)) × Int × (List (Int × Int × Int)) × ((Int × Int × Int) × (Int × Int × Int) × (Int × Int × Int) × Int × Int × Int) × Int × Int) × ((List ((Int × Int × Int) × (Int × Int × Int) × Int)) × (List ((Int × Int × Int) × (Int × Int × Int) × (Int × Int × Int) × Int)) × (List (Int × Int × Int × Int)) × Int × (List (Int × Int × Int)) × ((Int × Int × Int) × (Int × Int × Int) × (Int × Int × Int) × Int × Int × Int) × Int × Int) × Bool × Int × Unit) : Option (Ex × ((List ((Int × Int × Int) × (Int × Int × Int) × Int)) × (List ((Int × Int × Int) × (Int × Int × Int) × (Int × Int × Int) × Int)) × (List (Int × Int × Int × Int)) × Int × (List (Int × Int × Int)) × ((Int × Int × Int) × (Int × Int × Int) × (Int × Int × Int) × Int × Int × Int) × Int × Int) × ((List ((Int × Int × Int) × (Int × Int × Int) × Int)) × (List ((Int × Int × Int) × (Int × Int × Int) × (Int × Int × Int) × Int)) × (List (Int × Int × Int × Int)) × Int × (List (Int × Int × Int)) × ((Int × Int × Int) × (Int × Int × Int) × (Int × Int × Int) × Int × Int × Int) × Int × Int) × Bool × Int × Unit) := (iterT ref22_Same.t0 rounds x).run
theorem ref22_Same.k0 : bodies 0 (lp Tryd.f12 []) = [.loop (loopIn 0 (lp Tryd.f12 []))] ∧ WP Tryd.prog 0 (.block 0 (.loop (loopIn 0 (lp Tryd.f12 [])))) (loopS ref22_Same.L0 143 0 [.exit 0, .ret] ref22_Same.l0) :=
  loop_tree (L := ref22_Same.L0) (F := ({ quiet := Xs, deep := noDeep } : Fns)) (D := D0) (tab := []) (t := ref22_Same.t0) mixed Xok (deep_none _) (fun _ => rfl) (by kernel_rfl) (by kernel_rfl) trivial (fun x => by kernel_rfl)
def ref22_Same.L2 : List (Nat × Lay) := [(2, .box TScn), (3, .box TScn), (4, .val .bool), (6, .val TI)]
noncomputable def ref22_Same.t2 (x : ((List ((Int × Int × Int) × (Int × Int × Int) × Int)) × (List ((Int × Int × Int) × (Int × Int × Int) × (Int × Int × Int) × Int)) × (List (Int × Int × Int × Int)) × Int × (List (Int × Int × Int)) × ((Int × Int × Int) × (Int × Int × Int) × (Int × Int × Int) × Int × Int × Int) × Int × Int) × ((List ((Int × Int × Int) × (Int × Int × Int) × Int)) × (List ((Int × Int × Int) × (Int × Int × Int) × (Int × Int × Int) × Int)) × (List (Int × Int × Int × Int)) × Int × (List (Int × Int × Int)) × ((Int × Int × Int) × (Int × Int × Int) × (Int × Int × Int) × Int × Int × Int) × Int × Int) × Bool × Int × Unit) : T (Ex × ((List ((Int × Int × Int) × (Int × Int × Int) × Int)) × (List ((Int × Int × Int) × (Int × Int × Int) × (Int × Int × Int) × Int)) × (List (Int × Int × Int × Int)) × Int × (List (Int × Int × Int)) × ((Int × Int × Int) × (Int × Int × Int) × (Int × Int × Int) × Int × Int × Int) × Int × Int) × ((List ((Int × Int × Int) × (Int × Int × Int) × Int)) × (List ((Int × Int × Int) × (Int × Int × Int) × (Int × Int × Int) × Int)) × (List (Int × Int × Int × Int)) × Int × (List (Int × Int × Int)) × ((Int × Int × Int) × (Int × Int × Int) × (Int × Int × Int) × Int × Int × Int) × Int × Int) × Bool × Int × Unit) := T.ite (decide (x.2.2.2.1 < (↑(List.length x.1.2.1) : Int))) (T.opt (lget x.1.2.1 x.2.2.2.1) fun y => T.opt (lget x.2.1.2.1 x.2.2.2.1) fun y_1 => T.ite (!(y.1.1 == y_1.fst.fst && (y.1.2.1 == y_1.fst.snd.fst && y.1.2.2 == y_1.fst.snd.snd) && (y.2.1.1 == y_1.snd.fst.fst && (y.2.1.2.1 == y_1.snd.fst.snd.fst && y.2.1.2.2 == y_1.snd.fst.snd.snd) && (y.2.2.1.1 == y_1.snd.snd.fst.fst && (y.2.2.1.2.1 == y_1.snd.snd.fst.snd.fst && y.2.2.1.2.2 == y_1.snd.snd.fst.snd.snd) && y.2.2.2 == y_1.snd.snd.snd)))) (T.ret (Ex.ret, x.1, x.2.1, false, x.2.2.2.1, ())) (T.ret (Ex.normal, x.1, x.2.1, x.2.2.1, W (x.2.2.2.1 + (1 : Int)), ()))) (T.ret (Ex.exit (2 : Nat), x.1, x.2.1, x.2.2.1, x.2.2.2.1, ()))
noncomputable def ref22_Same.l2 (x : ((List ((Int × Int × Int) × (Int × Int × Int) × Int)) × (List ((Int × Int × Int) × (Int × Int × Int) × (Int × Int × Int) × Int)) × (List (Int × Int × Int × Int)) × Int × (List (Int × Int × Int)) × ((Int × Int × Int) × (Int × Int × Int) × (Int × Int × Int) × Int × Int × Int) × Int × Int) × ((List ((Int × Int × Int) × (Int × Int × Int) × Int)) × (List ((Int × Int × Int) × (Int × Int × Int) × (Int × Int × Int) × Int)) × (List (Int × Int × Int × Int)) × Int × (List (Int × Int × Int)) × ((Int × Int × Int) × (Int × Int × Int) × (Int × Int × Int) × Int × Int × Int) × Int × Int) × Bool × Int × Unit) : Option (Ex × ((List ((Int × Int × Int) × (Int × Int × Int) × Int)) × (List ((Int × Int × Int) × (Int × Int × Int) × (Int × Int × Int) × Int)) × (List (Int × Int × Int × Int)) × Int × (List (Int × Int × Int)) × ((Int × Int × Int) × (Int × Int × Int) × (Int × Int × Int) × Int × Int × Int) × Int × Int) × ((List ((Int × Int × Int) × (Int × Int × Int) × Int)) × (List ((Int × Int × Int) × (Int × Int × Int) × (Int × Int × Int) × Int)) × (List (Int × Int × Int × Int)) × Int × (List (Int × Int × Int)) × ((Int × Int × Int) × (Int × Int × Int) × (Int × Int × Int) × Int × Int × Int) × Int × Int) × Bool × Int × Unit) := (iterT ref22_Same.t2 rounds x).run
theorem ref22_Same.k2 : bodies 2 (lp Tryd.f12 []) = [.loop (loopIn 2 (lp Tryd.f12 []))] ∧ WP Tryd.prog 0 (.block 2 (.loop (loopIn 2 (lp Tryd.f12 [])))) (loopS ref22_Same.L2 143 2 [.exit 2, .ret] ref22_Same.l2) :=
  loop_tree (L := ref22_Same.L2) (F := ({ quiet := Xs, deep := noDeep } : Fns)) (D := D0) (tab := []) (t := ref22_Same.t2) mixed Xok (deep_none _) (fun _ => rfl) (by kernel_rfl) (by kernel_rfl) trivial (fun x => by kernel_rfl)
def ref22_Same.L4 : List (Nat × Lay) := [(2, .box TScn), (3, .box TScn), (4, .val .bool), (7, .val TI)]
noncomputable def ref22_Same.t4 (x : ((List ((Int × Int × Int) × (Int × Int × Int) × Int)) × (List ((Int × Int × Int) × (Int × Int × Int) × (Int × Int × Int) × Int)) × (List (Int × Int × Int × Int)) × Int × (List (Int × Int × Int)) × ((Int × Int × Int) × (Int × Int × Int) × (Int × Int × Int) × Int × Int × Int) × Int × Int) × ((List ((Int × Int × Int) × (Int × Int × Int) × Int)) × (List ((Int × Int × Int) × (Int × Int × Int) × (Int × Int × Int) × Int)) × (List (Int × Int × Int × Int)) × Int × (List (Int × Int × Int)) × ((Int × Int × Int) × (Int × Int × Int) × (Int × Int × Int) × Int × Int × Int) × Int × Int) × Bool × Int × Unit) : T (Ex × ((List ((Int × Int × Int) × (Int × Int × Int) × Int)) × (List ((Int × Int × Int) × (Int × Int × Int) × (Int × Int × Int) × Int)) × (List (Int × Int × Int × Int)) × Int × (List (Int × Int × Int)) × ((Int × Int × Int) × (Int × Int × Int) × (Int × Int × Int) × Int × Int × Int) × Int × Int) × ((List ((Int × Int × Int) × (Int × Int × Int) × Int)) × (List ((Int × Int × Int) × (Int × Int × Int) × (Int × Int × Int) × Int)) × (List (Int × Int × Int × Int)) × Int × (List (Int × Int × Int)) × ((Int × Int × Int) × (Int × Int × Int) × (Int × Int × Int) × Int × Int × Int) × Int × Int) × Bool × Int × Unit) := T.ite (decide (x.2.2.2.1 < (↑(List.length x.1.2.2.1) : Int))) (T.opt (lget x.1.2.2.1 x.2.2.2.1) fun y => T.opt (lget x.2.1.2.2.1 x.2.2.2.1) fun y_1 => T.ite (!(y.1 == y_1.fst && (y.2.1 == y_1.snd.fst && (y.2.2.1 == y_1.snd.snd.fst && y.2.2.2 == y_1.snd.snd.snd)))) (T.ret (Ex.ret, x.1, x.2.1, false, x.2.2.2.1, ())) (T.ret (Ex.normal, x.1, x.2.1, x.2.2.1, W (x.2.2.2.1 + (1 : Int)), ()))) (T.ret (Ex.exit (4 : Nat), x.1, x.2.1, x.2.2.1, x.2.2.2.1, ()))
noncomputable def ref22_Same.l4 (x : ((List ((Int × Int × Int) × (Int × Int × Int) × Int)) × (List ((Int × Int × Int) × (Int × Int × Int) × (Int × Int × Int) × Int)) × (List (Int × Int × Int × Int)) × Int × (List (Int × Int × Int)) × ((Int × Int × Int) × (Int × Int × Int) × (Int × Int × Int) × Int × Int × Int) × Int × Int) × ((List ((Int × Int × Int) × (Int × Int × Int) × Int)) × (List ((Int × Int × Int) × (Int × Int × Int) × (Int × Int × Int) × Int)) × (List (Int × Int × Int × Int)) × Int × (List (Int × Int × Int)) × ((Int × Int × Int) × (Int × Int × Int) × (Int × Int × Int) × Int × Int × Int) × Int × Int) × Bool × Int × Unit) : Option (Ex × ((List ((Int × Int × Int) × (Int × Int × Int) × Int)) × (List ((Int × Int × Int) × (Int × Int × Int) × (Int × Int × Int) × Int)) × (List (Int × Int × Int × Int)) × Int × (List (Int × Int × Int)) × ((Int × Int × Int) × (Int × Int × Int) × (Int × Int × Int) × Int × Int × Int) × Int × Int) × ((List ((Int × Int × Int) × (Int × Int × Int) × Int)) × (List ((Int × Int × Int) × (Int × Int × Int) × (Int × Int × Int) × Int)) × (List (Int × Int × Int × Int)) × Int × (List (Int × Int × Int)) × ((Int × Int × Int) × (Int × Int × Int) × (Int × Int × Int) × Int × Int × Int) × Int × Int) × Bool × Int × Unit) := (iterT ref22_Same.t4 rounds x).run
theorem ref22_Same.k4 : bodies 4 (lp Tryd.f12 []) = [.loop (loopIn 4 (lp Tryd.f12 []))] ∧ WP Tryd.prog 0 (.block 4 (.loop (loopIn 4 (lp Tryd.f12 [])))) (loopS ref22_Same.L4 143 4 [.exit 4, .ret] ref22_Same.l4) :=
  loop_tree (L := ref22_Same.L4) (F := ({ quiet := Xs, deep := noDeep } : Fns)) (D := D0) (tab := []) (t := ref22_Same.t4) mixed Xok (deep_none _) (fun _ => rfl) (by kernel_rfl) (by kernel_rfl) trivial (fun x => by kernel_rfl)
def ref22_Same.L6 : List (Nat × Lay) := [(2, .box TScn), (3, .box TScn), (4, .val .bool), (8, .val TI)]
noncomputable def ref22_Same.t6 (x : ((List ((Int × Int × Int) × (Int × Int × Int) × Int)) × (List ((Int × Int × Int) × (Int × Int × Int) × (Int × Int × Int) × Int)) × (List (Int × Int × Int × Int)) × Int × (List (Int × Int × Int)) × ((Int × Int × Int) × (Int × Int × Int) × (Int × Int × Int) × Int × Int × Int) × Int × Int) × ((List ((Int × Int × Int) × (Int × Int × Int) × Int)) × (List ((Int × Int × Int) × (Int × Int × Int) × (Int × Int × Int) × Int)) × (List (Int × Int × Int × Int)) × Int × (List (Int × Int × Int)) × ((Int × Int × Int) × (Int × Int × Int) × (Int × Int × Int) × Int × Int × Int) × Int × Int) × Bool × Int × Unit) : T (Ex × ((List ((Int × Int × Int) × (Int × Int × Int) × Int)) × (List ((Int × Int × Int) × (Int × Int × Int) × (Int × Int × Int) × Int)) × (List (Int × Int × Int × Int)) × Int × (List (Int × Int × Int)) × ((Int × Int × Int) × (Int × Int × Int) × (Int × Int × Int) × Int × Int × Int) × Int × Int) × ((List ((Int × Int × Int) × (Int × Int × Int) × Int)) × (List ((Int × Int × Int) × (Int × Int × Int) × (Int × Int × Int) × Int)) × (List (Int × Int × Int × Int)) × Int × (List (Int × Int × Int)) × ((Int × Int × Int) × (Int × Int × Int) × (Int × Int × Int) × Int × Int × Int) × Int × Int) × Bool × Int × Unit) := T.ite (decide (x.2.2.2.1 < (↑(List.length x.1.2.2.2.2.1) : Int))) (T.opt (lget x.1.2.2.2.2.1 x.2.2.2.1) fun y => T.opt (lget x.2.1.2.2.2.2.1 x.2.2.2.1) fun y_1 => T.ite (!(y.1 == y_1.fst && (y.2.1 == y_1.snd.fst && y.2.2 == y_1.snd.snd))) (T.ret (Ex.ret, x.1, x.2.1, false, x.2.2.2.1, ())) (T.ret (Ex.normal, x.1, x.2.1, x.2.2.1, W (x.2.2.2.1 + (1 : Int)), ()))) (T.ret (Ex.exit (6 : Nat), x.1, x.2.1, x.2.2.1, x.2.2.2.1, ()))
noncomputable def ref22_Same.l6 (x : ((List ((Int × Int × Int) × (Int × Int × Int) × Int)) × (List ((Int × Int × Int) × (Int × Int × Int) × (Int × Int × Int) × Int)) × (List (Int × Int × Int × Int)) × Int × (List (Int × Int × Int)) × ((Int × Int × Int) × (Int × Int × Int) × (Int × Int × Int) × Int × Int × Int) × Int × Int) × ((List ((Int × Int × Int) × (Int × Int × Int) × Int)) × (List ((Int × Int × Int) × (Int × Int × Int) × (Int × Int × Int) × Int)) × (List (Int × Int × Int × Int)) × Int × (List (Int × Int × Int)) × ((Int × Int × Int) × (Int × Int × Int) × (Int × Int × Int) × Int × Int × Int) × Int × Int) × Bool × Int × Unit) : Option (Ex × ((List ((Int × Int × Int) × (Int × Int × Int) × Int)) × (List ((Int × Int × Int) × (Int × Int × Int) × (Int × Int × Int) × Int)) × (List (Int × Int × Int × Int)) × Int × (List (Int × Int × Int)) × ((Int × Int × Int) × (Int × Int × Int) × (Int × Int × Int) × Int × Int × Int) × Int × Int) × ((List ((Int × Int × Int) × (Int × Int × Int) × Int)) × (List ((Int × Int × Int) × (Int × Int × Int) × (Int × Int × Int) × Int)) × (List (Int × Int × Int × Int)) × Int × (List (Int × Int × Int)) × ((Int × Int × Int) × (Int × Int × Int) × (Int × Int × Int) × Int × Int × Int) × Int × Int) × Bool × Int × Unit) := (iterT ref22_Same.t6 rounds x).run
theorem ref22_Same.k6 : bodies 6 (lp Tryd.f12 []) = [.loop (loopIn 6 (lp Tryd.f12 []))] ∧ WP Tryd.prog 0 (.block 6 (.loop (loopIn 6 (lp Tryd.f12 [])))) (loopS ref22_Same.L6 143 6 [.exit 6, .ret] ref22_Same.l6) :=
  loop_tree (L := ref22_Same.L6) (F := ({ quiet := Xs, deep := noDeep } : Fns)) (D := D0) (tab := []) (t := ref22_Same.t6) mixed Xok (deep_none _) (fun _ => rfl) (by kernel_rfl) (by kernel_rfl) trivial (fun x => by kernel_rfl)
noncomputable def ref22_Same.t (x : ((List ((Int × Int × Int) × (Int × Int × Int) × Int)) × (List ((Int × Int × Int) × (Int × Int × Int) × (Int × Int × Int) × Int)) × (List (Int × Int × Int × Int)) × Int × (List (Int × Int × Int)) × ((Int × Int × Int) × (Int × Int × Int) × (Int × Int × Int) × Int × Int × Int) × Int × Int) × ((List ((Int × Int × Int) × (Int × Int × Int) × Int)) × (List ((Int × Int × Int) × (Int × Int × Int) × (Int × Int × Int) × Int)) × (List (Int × Int × Int × Int)) × Int × (List (Int × Int × Int)) × ((Int × Int × Int) × (Int × Int × Int) × (Int × Int × Int) × Int × Int × Int) × Int × Int)) : T (Bool) := T.ite ((↑(List.length x.1.1) : Int) != (↑(List.length x.2.1) : Int) || (↑(List.length x.1.2.1) : Int) != (↑(List.length x.2.2.1) : Int) || (↑(List.length x.1.2.2.1) : Int) != (↑(List.length x.2.2.2.1) : Int) || (↑(List.length x.1.2.2.2.2.1) : Int) != (↑(List.length x.2.2.2.2.2.1) : Int) || x.1.2.2.2.1 != x.2.2.2.2.1 || !(x.1.2.2.2.2.2.1.1.1 == x.2.2.2.2.2.2.1.1.1 && (x.1.2.2.2.2.2.1.1.2.1 == x.2.2.2.2.2.2.1.1.2.1 && x.1.2.2.2.2.2.1.1.2.2 == x.2.2.2.2.2.2.1.1.2.2) && (x.1.2.2.2.2.2.1.2.1.1 == x.2.2.2.2.2.2.1.2.1.1 && (x.1.2.2.2.2.2.1.2.1.2.1 == x.2.2.2.2.2.2.1.2.1.2.1 && x.1.2.2.2.2.2.1.2.1.2.2 == x.2.2.2.2.2.2.1.2.1.2.2) && (x.1.2.2.2.2.2.1.2.2.1.1 == x.2.2.2.2.2.2.1.2.2.1.1 && (x.1.2.2.2.2.2.1.2.2.1.2.1 == x.2.2.2.2.2.2.1.2.2.1.2.1 && x.1.2.2.2.2.2.1.2.2.1.2.2 == x.2.2.2.2.2.2.1.2.2.1.2.2) && (x.1.2.2.2.2.2.1.2.2.2.1 == x.2.2.2.2.2.2.1.2.2.2.1 && (x.1.2.2.2.2.2.1.2.2.2.2.1 == x.2.2.2.2.2.2.1.2.2.2.2.1 && x.1.2.2.2.2.2.1.2.2.2.2.2 == x.2.2.2.2.2.2.1.2.2.2.2.2))))) || x.1.2.2.2.2.2.2.1 != x.2.2.2.2.2.2.2.1 || x.1.2.2.2.2.2.2.2 != x.2.2.2.2.2.2.2.2) (T.ret false) (T.opt (ref22_Same.l0 (x.1, x.2, false, (0 : Int), ())) fun y => T.ite (exEq y.1 (Ex.exit (0 : Nat))) (T.opt (ref22_Same.l2 (y.2.1, y.2.2.1, y.2.2.2.1, (0 : Int), ())) fun y => T.ite (exEq y.1 (Ex.exit (2 : Nat))) (T.opt (ref22_Same.l4 (y.2.1, y.2.2.1, y.2.2.2.1, (0 : Int), ())) fun y => T.ite (exEq y.1 (Ex.exit (4 : Nat))) (T.opt (ref22_Same.l6 (y.2.1, y.2.2.1, y.2.2.2.1, (0 : Int), ())) fun y => T.ite (exEq y.1 (Ex.exit (6 : Nat))) (T.ret true) (T.ite (exEq y.1 Ex.ret) (T.ret y.2.2.2.1) T.fail)) (T.ite (exEq y.1 Ex.ret) (T.ret y.2.2.2.1) T.fail)) (T.ite (exEq y.1 Ex.ret) (T.ret y.2.2.2.1) T.fail)) (T.ite (exEq y.1 Ex.ret) (T.ret y.2.2.2.1) T.fail))
noncomputable def ref22_Same (x : ((List ((Int × Int × Int) × (Int × Int × Int) × Int)) × (List ((Int × Int × Int) × (Int × Int × Int) × (Int × Int × Int) × Int)) × (List (Int × Int × Int × Int)) × Int × (List (Int × Int × Int)) × ((Int × Int × Int) × (Int × Int × Int) × (Int × Int × Int) × Int × Int × Int) × Int × Int) × ((List ((Int × Int × Int) × (Int × Int × Int) × Int)) × (List ((Int × Int × Int) × (Int × Int × Int) × (Int × Int × Int) × Int)) × (List (Int × Int × Int × Int)) × Int × (List (Int × Int × Int)) × ((Int × Int × Int) × (Int × Int × Int) × (Int × Int × Int) × Int × Int × Int) × Int × Int)) : Option (Bool) := (ref22_Same.t x).run
noncomputable def ref22_Same.q : List AV → T AV := entry [TScn, TScn] (outR [.bool]) fun x => .opt (ref22_Same x) .ret
theorem ref22_Same.ok : FnOK Tryd.prog 12 ref22_Same.q :=
  entry_call (ps := [TScn, TScn]) (rs := [.bool]) (F := ({ quiet := Xs, deep := noDeep } : Fns)) (D := D0) (S := tabS [(0, loopS ref22_Same.L0 143 0 [.exit 0, .ret] ref22_Same.l0), (2, loopS ref22_Same.L2 143 2 [.exit 2, .ret] ref22_Same.l2), (4, loopS ref22_Same.L4 143 4 [.exit 4, .ret] ref22_Same.l4), (6, loopS ref22_Same.L6 143 6 [.exit 6, .ret] ref22_Same.l6)]) (t := ref22_Same.t) mixed Xok (deep_none _) Tryd.func12 (by kernel_rfl) (sok_fn ⟨ref22_Same.k0, ref22_Same.k2, ref22_Same.k4, ref22_Same.k6, trivial⟩) (by kernel_rfl) (fun x => by kernel_rfl)
end Go.Proofs.Pen

namespace Go.Proofs.Pen
open Go Go.Proofs

theorem errIs_eq (e : ErrD) (c : Int) (hn : e.isNil = false) (h : e.depth ≤ 1000) : errors_Is (e, c) = some (e.has c) := by
  have h1 : errors_is (e, c, true) = some (e.has c) := by
    obtain ⟨e', he⟩ := is_run c false e rounds (rounds_gt (by omega))
    unfold errors_is errors_is.t
    dsimp only
    have hl : errors_is.l0 (e, c, true, false, ()) = some (.ret, e', c, true, e.has c, ()) := he
    rw [tr_opt, hl, Option.bind_some, tr_ite, if_pos (by rfl), tr_ret]
  unfold errors_Is errors_Is.t
  dsimp only
  rw [tr_ite, hn, if_neg (by simp), tr_opt, h1, Option.bind_some, tr_ret]

theorem Broken_eq (e : ErrD) (hn : e.isNil = false) (h : e.depth ≤ 1000) : merge_Broken e = some (e.has 11 || e.has 10) := by
  unfold merge_Broken merge_Broken.t
  rw [tr_opt, errIs_eq e 11 hn h, Option.bind_some, tr_ite, tr_ret, tr_opt, errIs_eq e 10 hn h, Option.bind_some, tr_ret]
  cases e.has 11 <;> simp

theorem wrong_eq {w : W3} (h : codeOK w) : law48_wrong (mkErr (some w), mkW (some w)) = some true := by
  have hi : fault_Is (mkErr (some w), w.2.1) = some true := by
    rw [mkErr_mkR, Is_eq _ _ (by rw [depth_mkR]; simp), has_mkR]
    simp
  have hb : merge_Broken (mkErr (some w)) = some true := by
    rw [mkErr_mkR, Broken_eq _ rfl (by rw [depth_mkR]; simp), has_mkR, has_mkR]
    obtain ⟨h1 | h1, _⟩ := h <;> simp [h1]
  unfold law48_wrong law48_wrong.t
  dsimp only [mkW]
  rw [tr_yes (show (!ErrD.isNil (mkErr (some w))) = true from rfl), tr_yes (show ((mkErr (some w)).top == w.1) = true from beq_self_eq_true w.1), tr_opt, hi, Option.bind_some, tr_yes rfl, tr_opt, hb, Option.bind_some, tr_ret]

/-! ### Scenes that may be -/
def matG (m : MatT) : Prop := matW m 0 = none
def triG (n : Int) (t : TriT) : Prop := 0 ≤ t.2.2.2 ∧ t.2.2.2 < n ∧ (in3 t.1 (-1048576) 1048576 && in3 t.2.1 (-1048576) 1048576 && in3 t.2.2.1 (-1048576) 1048576) = true ∧ flatB (lessW t.2.1 t.1) (lessW t.2.2.1 t.1) = false
def litG (n : Int) (l : LitT) : Prop := 0 ≤ l.1 ∧ l.1 < n ∧ in3 l.2 0 67108863 = true
def okS (x : ScT) : Prop := bigB x = false ∧ (∀ m ∈ x.1, matG m) ∧ (∀ t ∈ x.2.1, triG x.1.length t) ∧ (∀ l ∈ x.2.2.1, litG x.2.1.length l) ∧ (x.2.2.1.Pairwise fun a b => a.1 ≠ b.1) ∧
  (0 ≤ x.2.2.2.1 ∧ (x.2.2.2.2.1.length : Int) = 8 * x.2.2.2.1) ∧ (∀ c ∈ x.2.2.2.2.1, in3 c 0 67108863 = true) ∧ camW x = none

theorem firstF_none_iff {f : Nat → Option W3} {n : Nat} : (firstF f 0 n).map (·.2) = none ↔ ∀ i, i < n → f i = none := by
  constructor
  · intro h i hi
    have h : firstF f 0 n = none := by simpa using h
    exact firstF_none h i (Nat.zero_le _) (by omega)
  · intro h
    cases hf : firstF f 0 n with
    | none => rfl
    | some p =>
      obtain ⟨i, w⟩ := p
      obtain ⟨_, h2, h3⟩ := firstF_some hf
      rw [h i (by omega)] at h3
      cases h3

theorem matW_none {m : MatT} {p : Int} : matW m p = none ↔ matG m := by
  unfold matG matW
  split
  · simp
  · split <;> simp

theorem triW_none {n : Int} {t : TriT} {p : Int} : triW n t p = none ↔ triG n t := by
  unfold triG triW
  by_cases h : 0 ≤ t.2.2.2 ∧ t.2.2.2 < n
  · rw [if_neg (by simp; omega)]
    generalize (in3 t.1 (-1048576) 1048576 && in3 t.2.1 (-1048576) 1048576 && in3 t.2.2.1 (-1048576) 1048576) = q1
    generalize flatB (lessW t.2.1 t.1) (lessW t.2.2.1 t.1) = q2
    cases q1 <;> cases q2 <;> simp [h.1, h.2]
  · rw [if_pos (by simp; omega)]
    constructor
    · intro hh; cases hh
    · rintro ⟨h1, h2, _⟩; exact absurd ⟨h1, h2⟩ h

theorem litW_none {n : Int} {a : List LitT} {t : LitT} {p : Int} : litW n a t p = none ↔ litG n t ∧ ∀ y ∈ a, y.1 ≠ t.1 := by
  unfold litG litW
  by_cases h : (decide (t.1 < 0) || decide (t.1 ≥ n) || a.any fun y => t.1 == y.1) = true
  · rw [if_pos h]
    constructor
    · intro hh; cases hh
    · rintro ⟨⟨h1, h2, _⟩, h3⟩
      simp only [Bool.or_eq_true, decide_eq_true_eq, List.any_eq_true, beq_iff_eq] at h
      rcases h with (h | h) | ⟨y, hy, h⟩
      · omega
      · omega
      · exact absurd h.symm (h3 y hy)
  · rw [if_neg h]
    simp only [Bool.or_eq_true, decide_eq_true_eq, List.any_eq_true, beq_iff_eq, not_or, not_exists, not_and] at h
    obtain ⟨⟨h1, h2⟩, h3⟩ := h
    split
    · rename_i h4
      constructor
      · intro hh; cases hh
      · rintro ⟨⟨_, _, h5⟩, _⟩; rw [h4] at h5; cases h5
    · rename_i h4
      constructor
      · intro _; exact ⟨⟨by omega, by omega, nf h4⟩, fun y hy hh => h3 y hy hh.symm⟩
      · intro _; rfl

theorem celW_none {c : W3} {p : Int} : celW c p = none ↔ in3 c 0 67108863 = true := by
  unfold celW
  split
  · rename_i h; simp [h]
  · rename_i h; simp [nf h]

theorem orElse_none {a b : Option W3} : orElse' a b = none ↔ a = none ∧ b = none := by
  cases a <;> simp [orElse']

theorem wr_none {x : ScT} : wr x = none ↔ okS x := by
  unfold wr okS
  by_cases hb : bigB x = true
  · rw [if_pos hb, hb]; simp
  rw [if_neg hb]
  have hb' : bigB x = false := by simpa using hb
  have hz : x.2.2.2.1 ≤ 16 := by
    unfold bigB at hb'
    simp only [Bool.or_eq_false_iff, decide_eq_false_iff_not] at hb'
    omega
  rw [orElse_none, orElse_none, orElse_none, orElse_none]
  unfold wM wT wL
  rw [firstF_none_iff, firstF_none_iff, firstF_none_iff]
  have eM : (∀ i, i < x.1.length → fM x i = none) ↔ ∀ m ∈ x.1, matG m := by
    constructor
    · intro h m hm
      obtain ⟨i, hi, rfl⟩ := List.getElem_of_mem hm
      have := h i hi
      unfold fM at this
      rw [List.getElem?_eq_getElem hi, Option.bind_some] at this
      exact matW_none.1 this
    · intro h i hi
      unfold fM
      rw [List.getElem?_eq_getElem hi, Option.bind_some]
      exact matW_none.2 (h _ (List.getElem_mem hi))
  have eT : (∀ i, i < x.2.1.length → fT x i = none) ↔ ∀ t ∈ x.2.1, triG x.1.length t := by
    constructor
    · intro h m hm
      obtain ⟨i, hi, rfl⟩ := List.getElem_of_mem hm
      have := h i hi
      unfold fT at this
      rw [List.getElem?_eq_getElem hi, Option.bind_some] at this
      exact triW_none.1 this
    · intro h i hi
      unfold fT
      rw [List.getElem?_eq_getElem hi, Option.bind_some]
      exact triW_none.2 (h _ (List.getElem_mem hi))
  have eL : (∀ i, i < x.2.2.1.length → fL x i = none) ↔ (∀ l ∈ x.2.2.1, litG x.2.1.length l) ∧ (x.2.2.1.Pairwise fun a b => a.1 ≠ b.1) := by
    rw [List.pairwise_iff_getElem]
    constructor
    · intro h
      have h' : ∀ i (hi : i < x.2.2.1.length), litG x.2.1.length x.2.2.1[i] ∧ ∀ y ∈ x.2.2.1.take i, y.1 ≠ x.2.2.1[i].1 := by
        intro i hi
        have := h i hi
        unfold fL at this
        rw [List.getElem?_eq_getElem hi, Option.bind_some] at this
        exact litW_none.1 this
      refine ⟨fun m hm => ?_, fun i j hi hj hij => ?_⟩
      · obtain ⟨i, hi, rfl⟩ := List.getElem_of_mem hm
        exact (h' i hi).1
      · refine (h' j hj).2 x.2.2.1[i] ?_
        rw [List.mem_take_iff_getElem]
        exact ⟨i, by omega, rfl⟩
    · rintro ⟨h1, h2⟩ i hi
      unfold fL
      rw [List.getElem?_eq_getElem hi, Option.bind_some]
      refine litW_none.2 ⟨h1 _ (List.getElem_mem hi), fun y hy => ?_⟩
      rw [List.mem_take_iff_getElem] at hy
      obtain ⟨j, hj, rfl⟩ := hy
      exact h2 j i (by omega) hi (by omega)
  have eZ : wZ x = none ↔ (0 ≤ x.2.2.2.1 ∧ (x.2.2.2.2.1.length : Int) = 8 * x.2.2.2.1) ∧ (∀ c ∈ x.2.2.2.2.1, in3 c 0 67108863 = true) := by
    unfold wZ
    by_cases h1 : x.2.2.2.1 < 0
    · rw [if_pos (decide_eq_true h1)]
      constructor
      · intro h; cases h
      · rintro ⟨⟨h, _⟩, _⟩; omega
    rw [if_neg (by simpa using h1), W_id (by omega) (by omega)]
    by_cases h2 : (x.2.2.2.2.1.length : Int) = 8 * x.2.2.2.1
    · rw [if_neg (by simpa using h2)]
      unfold wC
      rw [firstF_none_iff]
      constructor
      · intro h
        refine ⟨⟨by omega, h2⟩, fun m hm => ?_⟩
        obtain ⟨i, hi, rfl⟩ := List.getElem_of_mem hm
        have := h i hi
        unfold fC at this
        rw [List.getElem?_eq_getElem hi, Option.bind_some] at this
        exact celW_none.1 this
      · rintro ⟨_, h⟩ i hi
        unfold fC
        rw [List.getElem?_eq_getElem hi, Option.bind_some]
        exact celW_none.2 (h _ (List.getElem_mem hi))
    · rw [if_pos (by simpa using h2)]
      constructor
      · intro h; cases h
      · rintro ⟨⟨_, h⟩, _⟩; exact absurd h h2
  rw [eM, eT, eL, eZ]
  simp only [hb', true_and, and_assoc]

/-! ### The same scene -/
abbrev ZS : ScT := ([], [], [], 0, [], ((0, 0, 0), (0, 0, 0), (0, 0, 0), 0, 0, 0), 0, 0)

theorem Same_refl (x : ScT) (h : lightB x) : ref22_Same (x, x) = some true := by
  obtain ⟨h1, h2, h3, h4⟩ := h
  have e0 : ref22_Same.l0 (x, x, false, 0, ()) = some (.exit 0, x, x, false, (x.1.length : Int), ()) := by
    have := iter_count (t := ref22_Same.t0) (fun k => (x, x, false, (k : Int), ())) (e := .exit 0) (z := (x, x, false, (x.1.length : Int), ())) (by simp) x.1.length 0 rounds
      (fun k _ hk => by
        have hk : k < x.1.length := by omega
        unfold ref22_Same.t0
        simp only [tr_ite, tr_ret, tr_opt, decide_eq_true_eq]
        rw [if_pos (by omega), lget_nat _ hk, Option.bind_some, Option.bind_some, if_neg (by simp), W_succ (by omega)])
      (by
        unfold ref22_Same.t0
        simp only [tr_ite, tr_ret, decide_eq_true_eq]
        rw [if_neg (by omega), Nat.zero_add])
      (rounds_gt (by omega))
    exact this
  have e2 : ref22_Same.l2 (x, x, false, 0, ()) = some (.exit 2, x, x, false, (x.2.1.length : Int), ()) := by
    have := iter_count (t := ref22_Same.t2) (fun k => (x, x, false, (k : Int), ())) (e := .exit 2) (z := (x, x, false, (x.2.1.length : Int), ())) (by simp) x.2.1.length 0 rounds
      (fun k _ hk => by
        have hk : k < x.2.1.length := by omega
        unfold ref22_Same.t2
        simp only [tr_ite, tr_ret, tr_opt, decide_eq_true_eq]
        rw [if_pos (by omega), lget_nat _ hk, Option.bind_some, Option.bind_some, if_neg (by simp), W_succ (by omega)])
      (by
        unfold ref22_Same.t2
        simp only [tr_ite, tr_ret, decide_eq_true_eq]
        rw [if_neg (by omega), Nat.zero_add])
      (rounds_gt (by omega))
    exact this
  have e4 : ref22_Same.l4 (x, x, false, 0, ()) = some (.exit 4, x, x, false, (x.2.2.1.length : Int), ()) := by
    have := iter_count (t := ref22_Same.t4) (fun k => (x, x, false, (k : Int), ())) (e := .exit 4) (z := (x, x, false, (x.2.2.1.length : Int), ())) (by simp) x.2.2.1.length 0 rounds
      (fun k _ hk => by
        have hk : k < x.2.2.1.length := by omega
        unfold ref22_Same.t4
        simp only [tr_ite, tr_ret, tr_opt, decide_eq_true_eq]
        rw [if_pos (by omega), lget_nat _ hk, Option.bind_some, Option.bind_some, if_neg (by simp), W_succ (by omega)])
      (by
        unfold ref22_Same.t4
        simp only [tr_ite, tr_ret, decide_eq_true_eq]
        rw [if_neg (by omega), Nat.zero_add])
      (rounds_gt (by omega))
    exact this
  have e6 : ref22_Same.l6 (x, x, false, 0, ()) = some (.exit 6, x, x, false, (x.2.2.2.2.1.length : Int), ()) := by
    have := iter_count (t := ref22_Same.t6) (fun k => (x, x, false, (k : Int), ())) (e := .exit 6) (z := (x, x, false, (x.2.2.2.2.1.length : Int), ())) (by simp) x.2.2.2.2.1.length 0 rounds
      (fun k _ hk => by
        have hk : k < x.2.2.2.2.1.length := by omega
        unfold ref22_Same.t6
        simp only [tr_ite, tr_ret, tr_opt, decide_eq_true_eq]
        rw [if_pos (by omega), lget_nat _ hk, Option.bind_some, Option.bind_some, if_neg (by simp), W_succ (by omega)])
      (by
        unfold ref22_Same.t6
        simp only [tr_ite, tr_ret, decide_eq_true_eq]
        rw [if_neg (by omega), Nat.zero_add])
      (rounds_gt (by omega))
    exact this
  unfold ref22_Same ref22_Same.t
  dsimp only
  rw [tr_ite, if_neg (by simp), tr_opt, e0, Option.bind_some]
  dsimp only
  rw [tr_ite, if_pos (show exEq (.exit 0) (.exit 0) = true from rfl), tr_opt, e2, Option.bind_some]
  dsimp only
  rw [tr_ite, if_pos (show exEq (.exit 2) (.exit 2) = true from rfl), tr_opt, e4, Option.bind_some]
  dsimp only
  rw [tr_ite, if_pos (show exEq (.exit 4) (.exit 4) = true from rfl), tr_opt, e6, Option.bind_some]
  dsimp only
  rw [tr_ite, if_pos (show exEq (.exit 6) (.exit 6) = true from rfl), tr_ret]

theorem lightZ : lightB ZS := by unfold lightB; simp
theorem map_takeS {α β : Type} (f : α → β) (l : List α) {k : Nat} (h : k < l.length) : (l.take k).map f ++ [f l[k]] = (l.take (k + 1)).map f := by
  rw [List.take_succ_eq_append_getElem h, List.map_append]; rfl
theorem take_snoc {α : Type} (l : List α) (v : α) : List.take (l.length + 1) (l ++ [v]) = l ++ [v] := List.take_of_length_le (by simp)
theorem small60 {n c : Nat} (h : n ≤ 900) (hc : c ≤ 1000) : n * c ≤ most := by
  have : n * c ≤ 900 * 1000 := Nat.mul_le_mul h hc
  unfold most; omega
theorem triG_up {n m : Int} {t : TriT} (h : triG n t) (hn : n ≤ m) : triG m t := ⟨h.1, by have := h.2.1; omega, h.2.2⟩
theorem litG_up {n m : Int} {t : LitT} (h : litG n t) (hn : n ≤ m) : litG m t := ⟨h.1, by have := h.2.1; omega, h.2.2⟩
theorem cam_same {x y : ScT} (h : x.2.2.2.2.2 = y.2.2.2.2.2) : camW x = camW y := by
  unfold camW
  rw [h]
theorem bigB_false {x : ScT} : bigB x = false ↔ x.1.length ≤ 32 ∧ x.2.1.length ≤ 512 ∧ x.2.2.1.length ≤ 512 ∧ x.2.2.2.1 ≤ 16 := by
  unfold bigB
  simp only [Bool.or_eq_false_iff, decide_eq_false_iff_not]
  omega
theorem mkW_zero {o : Option W3} (h : ∀ w, o = some w → codeOK w) : ((mkW o).1 == 0 && ((mkW o).2.1 == 0 && (mkW o).2.2 == 0)) = o.isNone := by
  cases o with
  | none => rfl
  | some w => exact (h w rfl).zero
theorem lightOf {x : ScT} (h : x.1.length ≤ 40 ∧ x.2.1.length ≤ 60 ∧ x.2.2.1.length ≤ 60 ∧ x.2.2.2.2.1.length ≤ 200) : lightB x := ⟨by omega, by omega, by omega, by omega⟩
theorem part_len {α : Type} (f : α → α) (l : List α) (k : Nat) : ((l.take k).map f ++ l.drop k).length = l.length := by
  rw [List.length_append, List.length_map, List.length_take, List.length_drop]; omega
theorem part_get {α : Type} (f : α → α) (l : List α) {k : Nat} (h : k < l.length) : ((l.take k).map f ++ l.drop k)[0 + Int.toNat (k : Int)]? = some l[k] := by
  have e : ((l.take k).map f).length = k := by rw [List.length_map, List.length_take]; omega
  rw [Int.toNat_natCast, Nat.zero_add, List.getElem?_append_right (by omega), e, Nat.sub_self, List.drop_eq_getElem_cons h]
  rfl
theorem part_set {α : Type} (f : α → α) (l : List α) {k : Nat} (h : k < l.length) : ((l.take k).map f ++ l.drop k).set (0 + Int.toNat (k : Int)) (f l[k]) = (l.take (k + 1)).map f ++ l.drop (k + 1) := by
  have e : ((l.take k).map f).length = k := by rw [List.length_map, List.length_take]; omega
  rw [Int.toNat_natCast, Nat.zero_add, List.set_append_right _ _ (by omega), e, Nat.sub_self, List.drop_eq_getElem_cons h, ← map_takeS f l h, List.append_assoc]
  rfl
end Go.Proofs.Pen

namespace Go.Proofs.Pen
open Go Go.Proofs
noncomputable def law22_Light.t (x : ((List ((Int × Int × Int) × (Int × Int × Int) × Int)) × (List ((Int × Int × Int) × (Int × Int × Int) × (Int × Int × Int) × Int)) × (List (Int × Int × Int × Int)) × Int × (List (Int × Int × Int)) × ((Int × Int × Int) × (Int × Int × Int) × (Int × Int × Int) × Int × Int × Int) × Int × Int)) : T (Bool) := T.ret (decide ((↑(List.length x.1) : Int) ≤ (40 : Int)) && decide ((↑(List.length x.2.1) : Int) ≤ (60 : Int)) && decide ((↑(List.length x.2.2.1) : Int) ≤ (60 : Int)) && decide ((↑(List.length x.2.2.2.2.1) : Int) ≤ (200 : Int)))
noncomputable def law22_Light.q : List AV → T AV := entry [TScn] (outR [.bool]) law22_Light.t
theorem law22_Light.ok : FnOK Tryd.prog 7 law22_Light.q :=
  entry_in (ps := [TScn]) (rs := [.bool]) (F := ({ quiet := Xs, deep := noDeep } : Fns)) (D := D0) (S := tabS []) (t := law22_Light.t) mixed Xok (deep_none _) Tryd.func7 (by kernel_rfl) (sok_fn trivial) (by kernel_rfl) (fun x => by kernel_rfl)
end Go.Proofs.Pen

namespace Go.Proofs.Pen
open Go Go.Proofs
noncomputable def law48_small.t (_ : Unit) : T (((List ((Int × Int × Int) × (Int × Int × Int) × Int)) × (List ((Int × Int × Int) × (Int × Int × Int) × (Int × Int × Int) × Int)) × (List (Int × Int × Int × Int)) × Int × (List (Int × Int × Int)) × ((Int × Int × Int) × (Int × Int × Int) × (Int × Int × Int) × Int × Int × Int) × Int × Int)) := T.ret (List.take (2 : Nat) [(((0 : Int), (0 : Int), (0 : Int)), ((0 : Int), (0 : Int), (0 : Int)), (1 : Int)), (((0 : Int), (0 : Int), (0 : Int)), ((0 : Int), (0 : Int), (0 : Int)), (2 : Int))], List.take (2 : Nat) [(((0 : Int), (0 : Int), (0 : Int)), ((1024 : Int), (0 : Int), (0 : Int)), ((0 : Int), (1024 : Int), (0 : Int)), (0 : Int)), (((0 : Int), (0 : Int), (0 : Int)), ((1024 : Int), (0 : Int), (0 : Int)), ((0 : Int), (1024 : Int), (0 : Int)), (0 : Int))], [((1 : Int), (9 : Int), (0 : Int), (0 : Int))], (0 : Int), [], (((0 : Int), (0 : Int), (1024 : Int)), ((0 : Int), (0 : Int), (0 : Int)), ((0 : Int), (1024 : Int), (0 : Int)), (1024 : Int), (0 : Int), (1024 : Int)), (1 : Int), (512 : Int))
noncomputable def law48_small.q : List AV → T AV := entry [] (outR [TScn]) law48_small.t
theorem law48_small.ok : FnOK Tryd.prog 25 law48_small.q :=
  entry_in (ps := []) (rs := [TScn]) (F := ({ quiet := Xs, deep := noDeep } : Fns)) (D := D0) (S := tabS []) (t := law48_small.t) mixed Xok (deep_none _) Tryd.func25 (by kernel_rfl) (sok_fn trivial) (by kernel_rfl) (fun x => by kernel_rfl)
end Go.Proofs.Pen

namespace Go.Proofs.Pen
open Go Go.Proofs
set_option maxRecDepth 100000
noncomputable def law48_awake.t (_ : Unit) : T (Bool) := T.ret true
noncomputable def law48_awake.q : List AV → T AV := entry [] (outR [.bool]) fun _ => .ret (true : dens [.bool])
theorem law48_awake.ok : FnOK Tryd.prog 8 law48_awake.q := peT_entry mixed (quiet_ext (quiet_ext Xok scene_Check.ok) law48_small.ok) [13, 26, 25] tbOk 100 20 Tryd.func8 (by kernel_rfl) (by kernel_rfl)
end Go.Proofs.Pen

namespace Go.Proofs.Pen
open Go Go.Proofs
noncomputable def merge_Without.deeps : Deeps := { D := [28, 43, 30, 49, 50, 51], C := [], frz := false, S := fun _ _ => noS }
theorem merge_Without.deepsOk : LoopsOK Tryd.prog merge_Without.deeps.S := (loops_none _)
def merge_Without.L0 : List (Nat × Lay) := [(1, .val TI), (4, .box TScn), (7, .obx [.own TMatD, .own TTriD, .own TLitD, .dat TI, .own TP, .dat TCam, .dat TI, .dat TI]), (38, .val (.sl TLitD)), (39, .val TI), (40, .val TI)]
noncomputable def merge_Without.t0 (x : Int × ((List ((Int × Int × Int) × (Int × Int × Int) × Int)) × (List ((Int × Int × Int) × (Int × Int × Int) × (Int × Int × Int) × Int)) × (List (Int × Int × Int × Int)) × Int × (List (Int × Int × Int)) × ((Int × Int × Int) × (Int × Int × Int) × (Int × Int × Int) × Int × Int × Int) × Int × Int) × (List ((Int × Int × Int) × (Int × Int × Int) × Int) × List ((Int × Int × Int) × (Int × Int × Int) × (Int × Int × Int) × Int) × List (Int × Int × Int × Int) × Int × List (Int × Int × Int) × ((Int × Int × Int) × (Int × Int × Int) × (Int × Int × Int) × Int × Int × Int) × Int × Int × Unit) × (List (Int × Int × Int × Int)) × Int × Int × Unit) : T (Ex × Int × ((List ((Int × Int × Int) × (Int × Int × Int) × Int)) × (List ((Int × Int × Int) × (Int × Int × Int) × (Int × Int × Int) × Int)) × (List (Int × Int × Int × Int)) × Int × (List (Int × Int × Int)) × ((Int × Int × Int) × (Int × Int × Int) × (Int × Int × Int) × Int × Int × Int) × Int × Int) × (List ((Int × Int × Int) × (Int × Int × Int) × Int) × List ((Int × Int × Int) × (Int × Int × Int) × (Int × Int × Int) × Int) × List (Int × Int × Int × Int) × Int × List (Int × Int × Int) × ((Int × Int × Int) × (Int × Int × Int) × (Int × Int × Int) × Int × Int × Int) × Int × Int × Unit) × (List (Int × Int × Int × Int)) × Int × Int × Unit) := T.ite (decide (x.2.2.2.2.2.1 < x.2.2.2.2.1)) (T.opt (lget x.2.2.2.1 x.2.2.2.2.2.1) fun y => T.ite (y.1 == x.1) (T.ret (Ex.normal, x.1, x.2.1, (List.take x.2.2.1.1.length x.2.2.1.1, List.take x.2.2.1.2.1.length x.2.2.1.2.1, List.take x.2.2.1.2.2.1.length x.2.2.1.2.2.1, x.2.2.1.2.2.2.1, List.take x.2.2.1.2.2.2.2.1.length x.2.2.1.2.2.2.2.1, x.2.2.1.2.2.2.2.2.1, x.2.2.1.2.2.2.2.2.2.1, x.2.2.1.2.2.2.2.2.2.2.1, ()), x.2.2.2.1, x.2.2.2.2.1, W (x.2.2.2.2.2.1 + (1 : Int)), ())) (T.ite (decide (y.1 > x.1)) (T.ite (decide ((x.2.2.1.2.2.1.length + (1 : Nat)) * nat_lit 32 ≤ most)) (T.ret (Ex.normal, x.1, x.2.1, (List.take x.2.2.1.1.length x.2.2.1.1, List.take x.2.2.1.2.1.length x.2.2.1.2.1, List.take (x.2.2.1.2.2.1.length + (1 : Nat)) (List.take x.2.2.1.2.2.1.length x.2.2.1.2.2.1 ++ [(W (y.1 - (1 : Int)), y.2)]), x.2.2.1.2.2.2.1, List.take x.2.2.1.2.2.2.2.1.length x.2.2.1.2.2.2.2.1, x.2.2.1.2.2.2.2.2.1, x.2.2.1.2.2.2.2.2.2.1, x.2.2.1.2.2.2.2.2.2.2.1, ()), x.2.2.2.1, x.2.2.2.2.1, W (x.2.2.2.2.2.1 + (1 : Int)), ())) T.fail) (T.ite (decide ((x.2.2.1.2.2.1.length + (1 : Nat)) * nat_lit 32 ≤ most)) (T.ret (Ex.normal, x.1, x.2.1, (List.take x.2.2.1.1.length x.2.2.1.1, List.take x.2.2.1.2.1.length x.2.2.1.2.1, List.take (x.2.2.1.2.2.1.length + (1 : Nat)) (List.take x.2.2.1.2.2.1.length x.2.2.1.2.2.1 ++ [y]), x.2.2.1.2.2.2.1, List.take x.2.2.1.2.2.2.2.1.length x.2.2.1.2.2.2.2.1, x.2.2.1.2.2.2.2.2.1, x.2.2.1.2.2.2.2.2.2.1, x.2.2.1.2.2.2.2.2.2.2.1, ()), x.2.2.2.1, x.2.2.2.2.1, W (x.2.2.2.2.2.1 + (1 : Int)), ())) T.fail))) (T.ret (Ex.exit (0 : Nat), x.1, x.2.1, (List.take x.2.2.1.1.length x.2.2.1.1, List.take x.2.2.1.2.1.length x.2.2.1.2.1, List.take x.2.2.1.2.2.1.length x.2.2.1.2.2.1, x.2.2.1.2.2.2.1, List.take x.2.2.1.2.2.2.2.1.length x.2.2.1.2.2.2.2.1, x.2.2.1.2.2.2.2.2.1, x.2.2.1.2.2.2.2.2.2.1, x.2.2.1.2.2.2.2.2.2.2.1, ()), x.2.2.2.1, x.2.2.2.2.1, x.2.2.2.2.2.1, ()))
noncomputable def merge_Without.l0 (x : Int × ((List ((Int × Int × Int) × (Int × Int × Int) × Int)) × (List ((Int × Int × Int) × (Int × Int × Int) × (Int × Int × Int) × Int)) × (List (Int × Int × Int × Int)) × Int × (List (Int × Int × Int)) × ((Int × Int × Int) × (Int × Int × Int) × (Int × Int × Int) × Int × Int × Int) × Int × Int) × (List ((Int × Int × Int) × (Int × Int × Int) × Int) × List ((Int × Int × Int) × (Int × Int × Int) × (Int × Int × Int) × Int) × List (Int × Int × Int × Int) × Int × List (Int × Int × Int) × ((Int × Int × Int) × (Int × Int × Int) × (Int × Int × Int) × Int × Int × Int) × Int × Int × Unit) × (List (Int × Int × Int × Int)) × Int × Int × Unit) : Option (Ex × Int × ((List ((Int × Int × Int) × (Int × Int × Int) × Int)) × (List ((Int × Int × Int) × (Int × Int × Int) × (Int × Int × Int) × Int)) × (List (Int × Int × Int × Int)) × Int × (List (Int × Int × Int)) × ((Int × Int × Int) × (Int × Int × Int) × (Int × Int × Int) × Int × Int × Int) × Int × Int) × (List ((Int × Int × Int) × (Int × Int × Int) × Int) × List ((Int × Int × Int) × (Int × Int × Int) × (Int × Int × Int) × Int) × List (Int × Int × Int × Int) × Int × List (Int × Int × Int) × ((Int × Int × Int) × (Int × Int × Int) × (Int × Int × Int) × Int × Int × Int) × Int × Int × Unit) × (List (Int × Int × Int × Int)) × Int × Int × Unit) := (iterT merge_Without.t0 rounds x).run
theorem merge_Without.k0 : bodies 0 (lp Tryd.f22 []) = [.loop (loopIn 0 (lp Tryd.f22 []))] ∧ WP Tryd.prog 0 (.block 0 (.loop (loopIn 0 (lp Tryd.f22 [])))) (loopS merge_Without.L0 64 0 [.exit 0] merge_Without.l0) :=
  loop_tree (L := merge_Without.L0) (F := (dpT Tryd.prog (ext (ext (ext (ext Xs 26 scene_Check.q) 27 fault_New.q) 68 scene_lights_1.q) 72 scene_within_1.q) merge_Without.deeps tb 100 8)) (D := (inL merge_Without.deeps.D)) (tab := []) (t := merge_Without.t0) mixed (dpT_ok mixed (quiet_ext (quiet_ext (quiet_ext (quiet_ext Xok scene_Check.ok) fault_New.ok) scene_lights_1.ok) scene_within_1.ok) merge_Without.deepsOk tbOk 100 8).1 (dpT_ok mixed (quiet_ext (quiet_ext (quiet_ext (quiet_ext Xok scene_Check.ok) fault_New.ok) scene_lights_1.ok) scene_within_1.ok) merge_Without.deepsOk tbOk 100 8).2 (fun _ => rfl) (by kernel_rfl) (by kernel_rfl) trivial (fun x => by kernel_rfl)
noncomputable def merge_Without.t (x : ((List ((Int × Int × Int) × (Int × Int × Int) × Int)) × (List ((Int × Int × Int) × (Int × Int × Int) × (Int × Int × Int) × Int)) × (List (Int × Int × Int × Int)) × Int × (List (Int × Int × Int)) × ((Int × Int × Int) × (Int × Int × Int) × (Int × Int × Int) × Int × Int × Int) × Int × Int) × Int) : T (((List ((Int × Int × Int) × (Int × Int × Int) × Int)) × (List ((Int × Int × Int) × (Int × Int × Int) × (Int × Int × Int) × Int)) × (List (Int × Int × Int × Int)) × Int × (List (Int × Int × Int)) × ((Int × Int × Int) × (Int × Int × Int) × (Int × Int × Int) × Int × Int × Int) × Int × Int) × ErrD) := T.opt (scene_Check x.1) fun y => T.ite (!y.isNil) (T.ret (([], [], [], (0 : Int), [], (((0 : Int), (0 : Int), (0 : Int)), ((0 : Int), (0 : Int), (0 : Int)), ((0 : Int), (0 : Int), (0 : Int)), (0 : Int), (0 : Int), (0 : Int)), (0 : Int), (0 : Int)), y)) (T.ite (decide (x.2 < (0 : Int)) || decide (x.2 ≥ (↑(List.length x.1.2.1) : Int))) (T.opt (fault_New ((3 : Int), (0 : Int))) fun y => T.ret (([], [], [], (0 : Int), [], (((0 : Int), (0 : Int), (0 : Int)), ((0 : Int), (0 : Int), (0 : Int)), ((0 : Int), (0 : Int), (0 : Int)), (0 : Int), (0 : Int), (0 : Int)), (0 : Int), (0 : Int)), y)) (T.ite (decide (List.length x.1.1 * (56 : Nat) ≤ most)) (T.ite (decide (List.length x.1.2.1 * (80 : Nat) ≤ most)) (T.ite (decide (List.length x.1.2.2.1 * (32 : Nat) ≤ most)) (T.ite (decide (List.length x.1.2.2.2.2.1 * (24 : Nat) ≤ most)) (T.ite (decide (List.length x.1.2.1 = List.length x.1.2.1) && (decide ((0 : Int) ≤ x.2) && (decide (x.2 < (↑(List.length x.1.2.1) : Int)) && decide (W (x.2 + (1 : Int)) = x.2 + (1 : Int))))) (T.opt (merge_Without.l0 (x.2, ([], [], [], (0 : Int), [], (((0 : Int), (0 : Int), (0 : Int)), ((0 : Int), (0 : Int), (0 : Int)), ((0 : Int), (0 : Int), (0 : Int)), (0 : Int), (0 : Int), (0 : Int)), (0 : Int), (0 : Int)), (List.take (List.length x.1.1) x.1.1, List.take (List.length x.1.2.1 - (1 : Nat)) (List.take (Int.toNat x.2) x.1.2.1 ++ List.drop (Int.toNat x.2 + (1 : Nat)) x.1.2.1 ++ [trZ]), [], x.1.2.2.2.1, List.take (List.length x.1.2.2.2.2.1) x.1.2.2.2.2.1, x.1.2.2.2.2.2.1, x.1.2.2.2.2.2.2.1, x.1.2.2.2.2.2.2.2, ()), x.1.2.2.1, (↑(List.length x.1.2.2.1) : Int), (0 : Int), ())) fun y => T.ite (exEq y.1 (Ex.exit (0 : Nat))) (T.ret ((List.take y.2.2.2.1.1.length y.2.2.2.1.1, List.take y.2.2.2.1.2.1.length y.2.2.2.1.2.1, List.take y.2.2.2.1.2.2.1.length y.2.2.2.1.2.2.1, y.2.2.2.1.2.2.2.1, List.take y.2.2.2.1.2.2.2.2.1.length y.2.2.2.1.2.2.2.2.1, y.2.2.2.1.2.2.2.2.2.1, y.2.2.2.1.2.2.2.2.2.2.1, y.2.2.2.1.2.2.2.2.2.2.2.1), ErrD.nil)) T.fail) T.fail) T.fail) T.fail) T.fail) T.fail))
noncomputable def merge_Without (x : ((List ((Int × Int × Int) × (Int × Int × Int) × Int)) × (List ((Int × Int × Int) × (Int × Int × Int) × (Int × Int × Int) × Int)) × (List (Int × Int × Int × Int)) × Int × (List (Int × Int × Int)) × ((Int × Int × Int) × (Int × Int × Int) × (Int × Int × Int) × Int × Int × Int) × Int × Int) × Int) : Option (((List ((Int × Int × Int) × (Int × Int × Int) × Int)) × (List ((Int × Int × Int) × (Int × Int × Int) × (Int × Int × Int) × Int)) × (List (Int × Int × Int × Int)) × Int × (List (Int × Int × Int)) × ((Int × Int × Int) × (Int × Int × Int) × (Int × Int × Int) × Int × Int × Int) × Int × Int) × ErrD) := (merge_Without.t x).run
noncomputable def merge_Without.q : List AV → T AV := entry [TScn, TI] (outR [TScn, TE]) fun x => .opt (merge_Without x) .ret
theorem merge_Without.ok : FnOK Tryd.prog 22 merge_Without.q :=
  entry_call (ps := [TScn, TI]) (rs := [TScn, TE]) (F := (dpT Tryd.prog (ext (ext (ext (ext Xs 26 scene_Check.q) 27 fault_New.q) 68 scene_lights_1.q) 72 scene_within_1.q) merge_Without.deeps tb 100 8)) (D := (inL merge_Without.deeps.D)) (S := tabS [(0, loopS merge_Without.L0 64 0 [.exit 0] merge_Without.l0)]) (t := merge_Without.t) mixed (dpT_ok mixed (quiet_ext (quiet_ext (quiet_ext (quiet_ext Xok scene_Check.ok) fault_New.ok) scene_lights_1.ok) scene_within_1.ok) merge_Without.deepsOk tbOk 100 8).1 (dpT_ok mixed (quiet_ext (quiet_ext (quiet_ext (quiet_ext Xok scene_Check.ok) fault_New.ok) scene_lights_1.ok) scene_within_1.ok) merge_Without.deepsOk tbOk 100 8).2 Tryd.func22 (by kernel_rfl) (sok_fn ⟨merge_Without.k0, trivial⟩) (by kernel_rfl) (fun x => by kernel_rfl)
end Go.Proofs.Pen

namespace Go.Proofs.Pen
open Go Go.Proofs
noncomputable def merge_Order.deeps : Deeps := { D := [28, 30, 49, 50, 51], C := [], frz := false, S := fun _ _ => noS }
theorem merge_Order.deepsOk : LoopsOK Tryd.prog merge_Order.deeps.S := (loops_none _)
def merge_Order.L0 : List (Nat × Lay) := [(2, .box TScn), (4, .box TScn), (5, .val TE), (7, .row TI), (8, .row .bool), (9, .obx [.own TMatD, .own TTriD, .own TLitD, .dat TI, .own TP, .dat TCam, .dat TI, .dat TI]), (37, .val (.sl TI)), (38, .val TI), (39, .val TI)]
noncomputable def merge_Order.t0 (x : ((List ((Int × Int × Int) × (Int × Int × Int) × Int)) × (List ((Int × Int × Int) × (Int × Int × Int) × (Int × Int × Int) × Int)) × (List (Int × Int × Int × Int)) × Int × (List (Int × Int × Int)) × ((Int × Int × Int) × (Int × Int × Int) × (Int × Int × Int) × Int × Int × Int) × Int × Int) × ((List ((Int × Int × Int) × (Int × Int × Int) × Int)) × (List ((Int × Int × Int) × (Int × Int × Int) × (Int × Int × Int) × Int)) × (List (Int × Int × Int × Int)) × Int × (List (Int × Int × Int)) × ((Int × Int × Int) × (Int × Int × Int) × (Int × Int × Int) × Int × Int × Int) × Int × Int) × ErrD × List Int × List Bool × (List ((Int × Int × Int) × (Int × Int × Int) × Int) × List ((Int × Int × Int) × (Int × Int × Int) × (Int × Int × Int) × Int) × List (Int × Int × Int × Int) × Int × List (Int × Int × Int) × ((Int × Int × Int) × (Int × Int × Int) × (Int × Int × Int) × Int × Int × Int) × Int × Int × Unit) × (List (Int)) × Int × Int × Unit) : T (Ex × ((List ((Int × Int × Int) × (Int × Int × Int) × Int)) × (List ((Int × Int × Int) × (Int × Int × Int) × (Int × Int × Int) × Int)) × (List (Int × Int × Int × Int)) × Int × (List (Int × Int × Int)) × ((Int × Int × Int) × (Int × Int × Int) × (Int × Int × Int) × Int × Int × Int) × Int × Int) × ((List ((Int × Int × Int) × (Int × Int × Int) × Int)) × (List ((Int × Int × Int) × (Int × Int × Int) × (Int × Int × Int) × Int)) × (List (Int × Int × Int × Int)) × Int × (List (Int × Int × Int)) × ((Int × Int × Int) × (Int × Int × Int) × (Int × Int × Int) × Int × Int × Int) × Int × Int) × ErrD × List Int × List Bool × (List ((Int × Int × Int) × (Int × Int × Int) × Int) × List ((Int × Int × Int) × (Int × Int × Int) × (Int × Int × Int) × Int) × List (Int × Int × Int × Int) × Int × List (Int × Int × Int) × ((Int × Int × Int) × (Int × Int × Int) × (Int × Int × Int) × Int × Int × Int) × Int × Int × Unit) × (List (Int)) × Int × Int × Unit) := T.ite (decide (x.2.2.2.2.2.2.2.2.1 < x.2.2.2.2.2.2.2.1)) (T.opt (lget x.2.2.2.2.2.2.1 x.2.2.2.2.2.2.2.2.1) fun y => T.ite (decide (y < (0 : Int)) || decide (y ≥ (↑x.2.2.2.1.length : Int))) (T.opt (fault_New ((2 : Int), (0 : Int))) fun y => T.ret (Ex.ret, x.1, ([], [], [], (0 : Int), [], (((0 : Int), (0 : Int), (0 : Int)), ((0 : Int), (0 : Int), (0 : Int)), ((0 : Int), (0 : Int), (0 : Int)), (0 : Int), (0 : Int), (0 : Int)), (0 : Int), (0 : Int)), y, List.take x.2.2.2.1.length x.2.2.2.1, List.take x.2.2.2.2.1.length x.2.2.2.2.1, (List.take x.2.2.2.2.2.1.1.length x.2.2.2.2.2.1.1, List.take x.2.2.2.2.2.1.2.1.length x.2.2.2.2.2.1.2.1, List.take x.2.2.2.2.2.1.2.2.1.length x.2.2.2.2.2.1.2.2.1, x.2.2.2.2.2.1.2.2.2.1, List.take x.2.2.2.2.2.1.2.2.2.2.1.length x.2.2.2.2.2.1.2.2.2.2.1, x.2.2.2.2.2.1.2.2.2.2.2.1, x.2.2.2.2.2.1.2.2.2.2.2.2.1, x.2.2.2.2.2.1.2.2.2.2.2.2.2.1, ()), x.2.2.2.2.2.2.1, x.2.2.2.2.2.2.2.1, x.2.2.2.2.2.2.2.2.1, ())) (T.ite (decide ((0 : Int) ≤ y) && decide (y < (↑x.2.2.2.2.1.length : Int))) (T.opt x.2.2.2.2.1[(0 : Nat) + Int.toNat y]? fun y_1 => T.ite y_1 (T.opt (fault_New ((2 : Int), (0 : Int))) fun y => T.ret (Ex.ret, x.1, ([], [], [], (0 : Int), [], (((0 : Int), (0 : Int), (0 : Int)), ((0 : Int), (0 : Int), (0 : Int)), ((0 : Int), (0 : Int), (0 : Int)), (0 : Int), (0 : Int), (0 : Int)), (0 : Int), (0 : Int)), y, List.take x.2.2.2.1.length x.2.2.2.1, List.take x.2.2.2.2.1.length x.2.2.2.2.1, (List.take x.2.2.2.2.2.1.1.length x.2.2.2.2.2.1.1, List.take x.2.2.2.2.2.1.2.1.length x.2.2.2.2.2.1.2.1, List.take x.2.2.2.2.2.1.2.2.1.length x.2.2.2.2.2.1.2.2.1, x.2.2.2.2.2.1.2.2.2.1, List.take x.2.2.2.2.2.1.2.2.2.2.1.length x.2.2.2.2.2.1.2.2.2.2.1, x.2.2.2.2.2.1.2.2.2.2.2.1, x.2.2.2.2.2.1.2.2.2.2.2.2.1, x.2.2.2.2.2.1.2.2.2.2.2.2.2.1, ()), x.2.2.2.2.2.2.1, x.2.2.2.2.2.2.2.1, x.2.2.2.2.2.2.2.2.1, ())) (T.ite (decide ((0 : Int) ≤ y) && decide (y < (↑x.2.2.2.2.1.length : Int))) (T.opt x.2.2.2.2.1[(0 : Nat) + Int.toNat y]? fun y_2 => T.ite (decide ((0 : Int) ≤ y) && decide (y < (↑x.2.2.2.1.length : Int))) (T.opt x.2.2.2.1[(0 : Nat) + Int.toNat y]? fun y_3 => T.opt (lget x.1.2.1 y) fun y_4 => T.ite (decide ((0 : Int) ≤ x.2.2.2.2.2.2.2.2.1) && decide (x.2.2.2.2.2.2.2.2.1 < (↑x.2.2.2.2.2.1.2.1.length : Int))) (T.opt x.2.2.2.2.2.1.2.1[(0 : Nat) + Int.toNat x.2.2.2.2.2.2.2.2.1]? fun y_5 => T.ret (Ex.normal, x.1, x.2.1, x.2.2.1, List.take x.2.2.2.1.length (x.2.2.2.1.set ((0 : Nat) + Int.toNat y) x.2.2.2.2.2.2.2.2.1), List.take x.2.2.2.2.1.length (x.2.2.2.2.1.set ((0 : Nat) + Int.toNat y) true), (List.take x.2.2.2.2.2.1.1.length x.2.2.2.2.2.1.1, List.take x.2.2.2.2.2.1.2.1.length (x.2.2.2.2.2.1.2.1.set ((0 : Nat) + Int.toNat x.2.2.2.2.2.2.2.2.1) y_4), List.take x.2.2.2.2.2.1.2.2.1.length x.2.2.2.2.2.1.2.2.1, x.2.2.2.2.2.1.2.2.2.1, List.take x.2.2.2.2.2.1.2.2.2.2.1.length x.2.2.2.2.2.1.2.2.2.2.1, x.2.2.2.2.2.1.2.2.2.2.2.1, x.2.2.2.2.2.1.2.2.2.2.2.2.1, x.2.2.2.2.2.1.2.2.2.2.2.2.2.1, ()), x.2.2.2.2.2.2.1, x.2.2.2.2.2.2.2.1, W (x.2.2.2.2.2.2.2.2.1 + (1 : Int)), ())) T.fail) T.fail) T.fail)) T.fail)) (T.ret (Ex.exit (0 : Nat), x.1, x.2.1, x.2.2.1, List.take x.2.2.2.1.length x.2.2.2.1, List.take x.2.2.2.2.1.length x.2.2.2.2.1, (List.take x.2.2.2.2.2.1.1.length x.2.2.2.2.2.1.1, List.take x.2.2.2.2.2.1.2.1.length x.2.2.2.2.2.1.2.1, List.take x.2.2.2.2.2.1.2.2.1.length x.2.2.2.2.2.1.2.2.1, x.2.2.2.2.2.1.2.2.2.1, List.take x.2.2.2.2.2.1.2.2.2.2.1.length x.2.2.2.2.2.1.2.2.2.2.1, x.2.2.2.2.2.1.2.2.2.2.2.1, x.2.2.2.2.2.1.2.2.2.2.2.2.1, x.2.2.2.2.2.1.2.2.2.2.2.2.2.1, ()), x.2.2.2.2.2.2.1, x.2.2.2.2.2.2.2.1, x.2.2.2.2.2.2.2.2.1, ()))
noncomputable def merge_Order.l0 (x : ((List ((Int × Int × Int) × (Int × Int × Int) × Int)) × (List ((Int × Int × Int) × (Int × Int × Int) × (Int × Int × Int) × Int)) × (List (Int × Int × Int × Int)) × Int × (List (Int × Int × Int)) × ((Int × Int × Int) × (Int × Int × Int) × (Int × Int × Int) × Int × Int × Int) × Int × Int) × ((List ((Int × Int × Int) × (Int × Int × Int) × Int)) × (List ((Int × Int × Int) × (Int × Int × Int) × (Int × Int × Int) × Int)) × (List (Int × Int × Int × Int)) × Int × (List (Int × Int × Int)) × ((Int × Int × Int) × (Int × Int × Int) × (Int × Int × Int) × Int × Int × Int) × Int × Int) × ErrD × List Int × List Bool × (List ((Int × Int × Int) × (Int × Int × Int) × Int) × List ((Int × Int × Int) × (Int × Int × Int) × (Int × Int × Int) × Int) × List (Int × Int × Int × Int) × Int × List (Int × Int × Int) × ((Int × Int × Int) × (Int × Int × Int) × (Int × Int × Int) × Int × Int × Int) × Int × Int × Unit) × (List (Int)) × Int × Int × Unit) : Option (Ex × ((List ((Int × Int × Int) × (Int × Int × Int) × Int)) × (List ((Int × Int × Int) × (Int × Int × Int) × (Int × Int × Int) × Int)) × (List (Int × Int × Int × Int)) × Int × (List (Int × Int × Int)) × ((Int × Int × Int) × (Int × Int × Int) × (Int × Int × Int) × Int × Int × Int) × Int × Int) × ((List ((Int × Int × Int) × (Int × Int × Int) × Int)) × (List ((Int × Int × Int) × (Int × Int × Int) × (Int × Int × Int) × Int)) × (List (Int × Int × Int × Int)) × Int × (List (Int × Int × Int)) × ((Int × Int × Int) × (Int × Int × Int) × (Int × Int × Int) × Int × Int × Int) × Int × Int) × ErrD × List Int × List Bool × (List ((Int × Int × Int) × (Int × Int × Int) × Int) × List ((Int × Int × Int) × (Int × Int × Int) × (Int × Int × Int) × Int) × List (Int × Int × Int × Int) × Int × List (Int × Int × Int) × ((Int × Int × Int) × (Int × Int × Int) × (Int × Int × Int) × Int × Int × Int) × Int × Int × Unit) × (List (Int)) × Int × Int × Unit) := (iterT merge_Order.t0 rounds x).run
theorem merge_Order.k0 : bodies 0 (lp Tryd.f23 []) = [.loop (loopIn 0 (lp Tryd.f23 []))] ∧ WP Tryd.prog 0 (.block 0 (.loop (loopIn 0 (lp Tryd.f23 [])))) (loopS merge_Order.L0 97 0 [.exit 0, .ret] merge_Order.l0) :=
  loop_tree (L := merge_Order.L0) (F := (dpT Tryd.prog (ext (ext (ext (ext Xs 26 scene_Check.q) 27 fault_New.q) 68 scene_lights_1.q) 72 scene_within_1.q) merge_Order.deeps tb 100 8)) (D := (inL merge_Order.deeps.D)) (tab := []) (t := merge_Order.t0) mixed (dpT_ok mixed (quiet_ext (quiet_ext (quiet_ext (quiet_ext Xok scene_Check.ok) fault_New.ok) scene_lights_1.ok) scene_within_1.ok) merge_Order.deepsOk tbOk 100 8).1 (dpT_ok mixed (quiet_ext (quiet_ext (quiet_ext (quiet_ext Xok scene_Check.ok) fault_New.ok) scene_lights_1.ok) scene_within_1.ok) merge_Order.deepsOk tbOk 100 8).2 (fun _ => rfl) (by kernel_rfl) (by kernel_rfl) trivial (fun x => by kernel_rfl)
def merge_Order.L2 : List (Nat × Lay) := [(4, .box TScn), (7, .row TI), (9, .obx [.own TMatD, .own TTriD, .own TLitD, .dat TI, .own TP, .dat TCam, .dat TI, .dat TI]), (78, .val (.sl TLitD)), (79, .val TI), (80, .val TI)]
noncomputable def merge_Order.t2 (x : ((List ((Int × Int × Int) × (Int × Int × Int) × Int)) × (List ((Int × Int × Int) × (Int × Int × Int) × (Int × Int × Int) × Int)) × (List (Int × Int × Int × Int)) × Int × (List (Int × Int × Int)) × ((Int × Int × Int) × (Int × Int × Int) × (Int × Int × Int) × Int × Int × Int) × Int × Int) × List Int × (List ((Int × Int × Int) × (Int × Int × Int) × Int) × List ((Int × Int × Int) × (Int × Int × Int) × (Int × Int × Int) × Int) × List (Int × Int × Int × Int) × Int × List (Int × Int × Int) × ((Int × Int × Int) × (Int × Int × Int) × (Int × Int × Int) × Int × Int × Int) × Int × Int × Unit) × (List (Int × Int × Int × Int)) × Int × Int × Unit) : T (Ex × ((List ((Int × Int × Int) × (Int × Int × Int) × Int)) × (List ((Int × Int × Int) × (Int × Int × Int) × (Int × Int × Int) × Int)) × (List (Int × Int × Int × Int)) × Int × (List (Int × Int × Int)) × ((Int × Int × Int) × (Int × Int × Int) × (Int × Int × Int) × Int × Int × Int) × Int × Int) × List Int × (List ((Int × Int × Int) × (Int × Int × Int) × Int) × List ((Int × Int × Int) × (Int × Int × Int) × (Int × Int × Int) × Int) × List (Int × Int × Int × Int) × Int × List (Int × Int × Int) × ((Int × Int × Int) × (Int × Int × Int) × (Int × Int × Int) × Int × Int × Int) × Int × Int × Unit) × (List (Int × Int × Int × Int)) × Int × Int × Unit) := T.ite (decide (x.2.2.2.2.2.1 < x.2.2.2.2.1)) (T.opt (lget x.2.2.2.1 x.2.2.2.2.2.1) fun y => T.ite (decide ((0 : Int) ≤ y.1) && decide (y.1 < (↑x.2.1.length : Int))) (T.opt x.2.1[(0 : Nat) + Int.toNat y.1]? fun y => T.ite (decide ((0 : Int) ≤ x.2.2.2.2.2.1) && decide (x.2.2.2.2.2.1 < (↑x.2.2.1.2.2.1.length : Int))) (T.opt x.2.2.1.2.2.1[(0 : Nat) + Int.toNat x.2.2.2.2.2.1]? fun y_1 => T.ret (Ex.normal, x.1, List.take x.2.1.length x.2.1, (List.take x.2.2.1.1.length x.2.2.1.1, List.take x.2.2.1.2.1.length x.2.2.1.2.1, List.take x.2.2.1.2.2.1.length (x.2.2.1.2.2.1.set ((0 : Nat) + Int.toNat x.2.2.2.2.2.1) (y, y_1.snd)), x.2.2.1.2.2.2.1, List.take x.2.2.1.2.2.2.2.1.length x.2.2.1.2.2.2.2.1, x.2.2.1.2.2.2.2.2.1, x.2.2.1.2.2.2.2.2.2.1, x.2.2.1.2.2.2.2.2.2.2.1, ()), x.2.2.2.1, x.2.2.2.2.1, W (x.2.2.2.2.2.1 + (1 : Int)), ())) T.fail) T.fail) (T.ret (Ex.exit (2 : Nat), x.1, List.take x.2.1.length x.2.1, (List.take x.2.2.1.1.length x.2.2.1.1, List.take x.2.2.1.2.1.length x.2.2.1.2.1, List.take x.2.2.1.2.2.1.length x.2.2.1.2.2.1, x.2.2.1.2.2.2.1, List.take x.2.2.1.2.2.2.2.1.length x.2.2.1.2.2.2.2.1, x.2.2.1.2.2.2.2.2.1, x.2.2.1.2.2.2.2.2.2.1, x.2.2.1.2.2.2.2.2.2.2.1, ()), x.2.2.2.1, x.2.2.2.2.1, x.2.2.2.2.2.1, ()))
noncomputable def merge_Order.l2 (x : ((List ((Int × Int × Int) × (Int × Int × Int) × Int)) × (List ((Int × Int × Int) × (Int × Int × Int) × (Int × Int × Int) × Int)) × (List (Int × Int × Int × Int)) × Int × (List (Int × Int × Int)) × ((Int × Int × Int) × (Int × Int × Int) × (Int × Int × Int) × Int × Int × Int) × Int × Int) × List Int × (List ((Int × Int × Int) × (Int × Int × Int) × Int) × List ((Int × Int × Int) × (Int × Int × Int) × (Int × Int × Int) × Int) × List (Int × Int × Int × Int) × Int × List (Int × Int × Int) × ((Int × Int × Int) × (Int × Int × Int) × (Int × Int × Int) × Int × Int × Int) × Int × Int × Unit) × (List (Int × Int × Int × Int)) × Int × Int × Unit) : Option (Ex × ((List ((Int × Int × Int) × (Int × Int × Int) × Int)) × (List ((Int × Int × Int) × (Int × Int × Int) × (Int × Int × Int) × Int)) × (List (Int × Int × Int × Int)) × Int × (List (Int × Int × Int)) × ((Int × Int × Int) × (Int × Int × Int) × (Int × Int × Int) × Int × Int × Int) × Int × Int) × List Int × (List ((Int × Int × Int) × (Int × Int × Int) × Int) × List ((Int × Int × Int) × (Int × Int × Int) × (Int × Int × Int) × Int) × List (Int × Int × Int × Int) × Int × List (Int × Int × Int) × ((Int × Int × Int) × (Int × Int × Int) × (Int × Int × Int) × Int × Int × Int) × Int × Int × Unit) × (List (Int × Int × Int × Int)) × Int × Int × Unit) := (iterT merge_Order.t2 rounds x).run
theorem merge_Order.k2 : bodies 2 (lp Tryd.f23 []) = [.loop (loopIn 2 (lp Tryd.f23 []))] ∧ WP Tryd.prog 0 (.block 2 (.loop (loopIn 2 (lp Tryd.f23 [])))) (loopS merge_Order.L2 97 2 [.exit 2] merge_Order.l2) :=
  loop_tree (L := merge_Order.L2) (F := (dpT Tryd.prog (ext (ext (ext (ext Xs 26 scene_Check.q) 27 fault_New.q) 68 scene_lights_1.q) 72 scene_within_1.q) merge_Order.deeps tb 100 8)) (D := (inL merge_Order.deeps.D)) (tab := []) (t := merge_Order.t2) mixed (dpT_ok mixed (quiet_ext (quiet_ext (quiet_ext (quiet_ext Xok scene_Check.ok) fault_New.ok) scene_lights_1.ok) scene_within_1.ok) merge_Order.deepsOk tbOk 100 8).1 (dpT_ok mixed (quiet_ext (quiet_ext (quiet_ext (quiet_ext Xok scene_Check.ok) fault_New.ok) scene_lights_1.ok) scene_within_1.ok) merge_Order.deepsOk tbOk 100 8).2 (fun _ => rfl) (by kernel_rfl) (by kernel_rfl) trivial (fun x => by kernel_rfl)
noncomputable def merge_Order.t (x : ((List ((Int × Int × Int) × (Int × Int × Int) × Int)) × (List ((Int × Int × Int) × (Int × Int × Int) × (Int × Int × Int) × Int)) × (List (Int × Int × Int × Int)) × Int × (List (Int × Int × Int)) × ((Int × Int × Int) × (Int × Int × Int) × (Int × Int × Int) × Int × Int × Int) × Int × Int) × (List (Int))) : T (((List ((Int × Int × Int) × (Int × Int × Int) × Int)) × (List ((Int × Int × Int) × (Int × Int × Int) × (Int × Int × Int) × Int)) × (List (Int × Int × Int × Int)) × Int × (List (Int × Int × Int)) × ((Int × Int × Int) × (Int × Int × Int) × (Int × Int × Int) × Int × Int × Int) × Int × Int) × ErrD) := T.opt (scene_Check x.1) fun y => T.ite (!y.isNil) (T.ret (([], [], [], (0 : Int), [], (((0 : Int), (0 : Int), (0 : Int)), ((0 : Int), (0 : Int), (0 : Int)), ((0 : Int), (0 : Int), (0 : Int)), (0 : Int), (0 : Int), (0 : Int)), (0 : Int), (0 : Int)), y)) (T.ite (decide ((0 : Int) ≤ (↑(List.length x.1.2.1) : Int)) && decide ((↑(List.length x.1.2.1) : Int) ≤ (↑(List.length x.1.2.1) : Int)) && decide ((↑(List.length x.1.2.1) : Int) * (↑(nat_lit 8) : Int) ≤ (↑most : Int)) && decide ((↑(List.length x.1.2.1) : Int) ≤ (↑most : Int))) (T.ite (decide ((0 : Int) ≤ (↑(List.length x.1.2.1) : Int)) && decide ((↑(List.length x.1.2.1) : Int) ≤ (↑(List.length x.1.2.1) : Int)) && decide ((↑(List.length x.1.2.1) : Int) * (↑(nat_lit 1) : Int) ≤ (↑most : Int)) && decide ((↑(List.length x.1.2.1) : Int) ≤ (↑most : Int))) (T.ite ((↑(List.length x.2) : Int) != (↑(↑(List.length x.1.2.1) : Int).toNat : Int)) (T.opt (fault_New ((2 : Int), (0 : Int))) fun y => T.ret (([], [], [], (0 : Int), [], (((0 : Int), (0 : Int), (0 : Int)), ((0 : Int), (0 : Int), (0 : Int)), ((0 : Int), (0 : Int), (0 : Int)), (0 : Int), (0 : Int), (0 : Int)), (0 : Int), (0 : Int)), y)) (T.ite (decide (List.length x.1.1 * (56 : Nat) ≤ most)) (T.ite (decide (List.length x.1.2.1 * (80 : Nat) ≤ most)) (T.ite (decide (List.length x.1.2.2.1 * (32 : Nat) ≤ most)) (T.ite (decide (List.length x.1.2.2.2.2.1 * (24 : Nat) ≤ most)) (T.opt (merge_Order.l0 (x.1, ([], [], [], (0 : Int), [], (((0 : Int), (0 : Int), (0 : Int)), ((0 : Int), (0 : Int), (0 : Int)), ((0 : Int), (0 : Int), (0 : Int)), (0 : Int), (0 : Int), (0 : Int)), (0 : Int), (0 : Int)), ErrD.nil, List.take (↑(List.length x.1.2.1) : Int).toNat (List.replicate (↑(List.length x.1.2.1) : Int).toNat (0 : Int)), List.take (↑(List.length x.1.2.1) : Int).toNat (List.replicate (↑(List.length x.1.2.1) : Int).toNat false), (List.take (List.length x.1.1) x.1.1, List.take (List.length x.1.2.1) x.1.2.1, List.take (List.length x.1.2.2.1) x.1.2.2.1, x.1.2.2.2.1, List.take (List.length x.1.2.2.2.2.1) x.1.2.2.2.2.1, x.1.2.2.2.2.2.1, x.1.2.2.2.2.2.2.1, x.1.2.2.2.2.2.2.2, ()), x.2, (↑(List.length x.2) : Int), (0 : Int), ())) fun y => T.ite (exEq y.1 (Ex.exit (0 : Nat))) (T.opt (merge_Order.l2 (y.2.2.1, List.take y.2.2.2.2.1.length y.2.2.2.2.1, (List.take y.2.2.2.2.2.2.1.1.length y.2.2.2.2.2.2.1.1, List.take y.2.2.2.2.2.2.1.2.1.length y.2.2.2.2.2.2.1.2.1, List.take y.2.2.2.2.2.2.1.2.2.1.length y.2.2.2.2.2.2.1.2.2.1, y.2.2.2.2.2.2.1.2.2.2.1, List.take y.2.2.2.2.2.2.1.2.2.2.2.1.length y.2.2.2.2.2.2.1.2.2.2.2.1, y.2.2.2.2.2.2.1.2.2.2.2.2.1, y.2.2.2.2.2.2.1.2.2.2.2.2.2.1, y.2.2.2.2.2.2.1.2.2.2.2.2.2.2.1, ()), y.2.1.2.2.1, (↑(List.length y.2.1.2.2.1) : Int), (0 : Int), ())) fun y => T.ite (exEq y.1 (Ex.exit (2 : Nat))) (T.ret ((List.take y.2.2.2.1.1.length y.2.2.2.1.1, List.take y.2.2.2.1.2.1.length y.2.2.2.1.2.1, List.take y.2.2.2.1.2.2.1.length y.2.2.2.1.2.2.1, y.2.2.2.1.2.2.2.1, List.take y.2.2.2.1.2.2.2.2.1.length y.2.2.2.1.2.2.2.2.1, y.2.2.2.1.2.2.2.2.2.1, y.2.2.2.1.2.2.2.2.2.2.1, y.2.2.2.1.2.2.2.2.2.2.2.1), ErrD.nil)) T.fail) (T.ite (exEq y.1 Ex.ret) (T.ret (y.2.2.1, y.2.2.2.1)) T.fail)) T.fail) T.fail) T.fail) T.fail)) T.fail) T.fail)
noncomputable def merge_Order (x : ((List ((Int × Int × Int) × (Int × Int × Int) × Int)) × (List ((Int × Int × Int) × (Int × Int × Int) × (Int × Int × Int) × Int)) × (List (Int × Int × Int × Int)) × Int × (List (Int × Int × Int)) × ((Int × Int × Int) × (Int × Int × Int) × (Int × Int × Int) × Int × Int × Int) × Int × Int) × (List (Int))) : Option (((List ((Int × Int × Int) × (Int × Int × Int) × Int)) × (List ((Int × Int × Int) × (Int × Int × Int) × (Int × Int × Int) × Int)) × (List (Int × Int × Int × Int)) × Int × (List (Int × Int × Int)) × ((Int × Int × Int) × (Int × Int × Int) × (Int × Int × Int) × Int × Int × Int) × Int × Int) × ErrD) := (merge_Order.t x).run
noncomputable def merge_Order.q : List AV → T AV := entry [TScn, (.sl TI)] (outR [TScn, TE]) fun x => .opt (merge_Order x) .ret
theorem merge_Order.ok : FnOK Tryd.prog 23 merge_Order.q :=
  entry_call (ps := [TScn, (.sl TI)]) (rs := [TScn, TE]) (F := (dpT Tryd.prog (ext (ext (ext (ext Xs 26 scene_Check.q) 27 fault_New.q) 68 scene_lights_1.q) 72 scene_within_1.q) merge_Order.deeps tb 100 8)) (D := (inL merge_Order.deeps.D)) (S := tabS [(0, loopS merge_Order.L0 97 0 [.exit 0, .ret] merge_Order.l0), (2, loopS merge_Order.L2 97 2 [.exit 2] merge_Order.l2)]) (t := merge_Order.t) mixed (dpT_ok mixed (quiet_ext (quiet_ext (quiet_ext (quiet_ext Xok scene_Check.ok) fault_New.ok) scene_lights_1.ok) scene_within_1.ok) merge_Order.deepsOk tbOk 100 8).1 (dpT_ok mixed (quiet_ext (quiet_ext (quiet_ext (quiet_ext Xok scene_Check.ok) fault_New.ok) scene_lights_1.ok) scene_within_1.ok) merge_Order.deepsOk tbOk 100 8).2 Tryd.func23 (by kernel_rfl) (sok_fn ⟨merge_Order.k0, merge_Order.k2, trivial⟩) (by kernel_rfl) (fun x => by kernel_rfl)
end Go.Proofs.Pen

namespace Go.Proofs.Pen
open Go Go.Proofs
def ref48_Light.L0 : List (Nat × Lay) := [(1, .val TI), (2, .box TScn), (4, .box TP), (5, .val .bool), (6, .val TI)]
noncomputable def ref48_Light.t0 (x : Int × ((List ((Int × Int × Int) × (Int × Int × Int) × Int)) × (List ((Int × Int × Int) × (Int × Int × Int) × (Int × Int × Int) × Int)) × (List (Int × Int × Int × Int)) × Int × (List (Int × Int × Int)) × ((Int × Int × Int) × (Int × Int × Int) × (Int × Int × Int) × Int × Int × Int) × Int × Int) × (Int × Int × Int) × Bool × Int × Unit) : T (Ex × Int × ((List ((Int × Int × Int) × (Int × Int × Int) × Int)) × (List ((Int × Int × Int) × (Int × Int × Int) × (Int × Int × Int) × Int)) × (List (Int × Int × Int × Int)) × Int × (List (Int × Int × Int)) × ((Int × Int × Int) × (Int × Int × Int) × (Int × Int × Int) × Int × Int × Int) × Int × Int) × (Int × Int × Int) × Bool × Int × Unit) := T.ite (decide (x.2.2.2.2.1 < (↑(List.length x.2.1.2.2.1) : Int))) (T.opt (lget x.2.1.2.2.1 x.2.2.2.2.1) fun y => T.ite (y.1 == x.1) (T.opt (lget x.2.1.2.2.1 x.2.2.2.2.1) fun y => T.ret (Ex.ret, x.1, x.2.1, y.2, true, x.2.2.2.2.1, ())) (T.ret (Ex.normal, x.1, x.2.1, x.2.2.1, x.2.2.2.1, W (x.2.2.2.2.1 + (1 : Int)), ()))) (T.ret (Ex.exit (0 : Nat), x.1, x.2.1, x.2.2.1, x.2.2.2.1, x.2.2.2.2.1, ()))
noncomputable def ref48_Light.l0 (x : Int × ((List ((Int × Int × Int) × (Int × Int × Int) × Int)) × (List ((Int × Int × Int) × (Int × Int × Int) × (Int × Int × Int) × Int)) × (List (Int × Int × Int × Int)) × Int × (List (Int × Int × Int)) × ((Int × Int × Int) × (Int × Int × Int) × (Int × Int × Int) × Int × Int × Int) × Int × Int) × (Int × Int × Int) × Bool × Int × Unit) : Option (Ex × Int × ((List ((Int × Int × Int) × (Int × Int × Int) × Int)) × (List ((Int × Int × Int) × (Int × Int × Int) × (Int × Int × Int) × Int)) × (List (Int × Int × Int × Int)) × Int × (List (Int × Int × Int)) × ((Int × Int × Int) × (Int × Int × Int) × (Int × Int × Int) × Int × Int × Int) × Int × Int) × (Int × Int × Int) × Bool × Int × Unit) := (iterT ref48_Light.t0 rounds x).run
theorem ref48_Light.k0 : bodies 0 (lp Tryd.f41 []) = [.loop (loopIn 0 (lp Tryd.f41 []))] ∧ WP Tryd.prog 0 (.block 0 (.loop (loopIn 0 (lp Tryd.f41 [])))) (loopS ref48_Light.L0 29 0 [.exit 0, .ret] ref48_Light.l0) :=
  loop_tree (L := ref48_Light.L0) (F := ({ quiet := Xs, deep := noDeep } : Fns)) (D := D0) (tab := []) (t := ref48_Light.t0) mixed Xok (deep_none _) (fun _ => rfl) (by kernel_rfl) (by kernel_rfl) trivial (fun x => by kernel_rfl)
noncomputable def ref48_Light.t (x : ((List ((Int × Int × Int) × (Int × Int × Int) × Int)) × (List ((Int × Int × Int) × (Int × Int × Int) × (Int × Int × Int) × Int)) × (List (Int × Int × Int × Int)) × Int × (List (Int × Int × Int)) × ((Int × Int × Int) × (Int × Int × Int) × (Int × Int × Int) × Int × Int × Int) × Int × Int) × Int) : T ((Int × Int × Int) × Bool) := T.opt (ref48_Light.l0 (x.2, x.1, ((0 : Int), (0 : Int), (0 : Int)), false, (0 : Int), ())) fun y => T.ite (exEq y.1 (Ex.exit (0 : Nat))) (T.ret (((0 : Int), (0 : Int), (0 : Int)), false)) (T.ite (exEq y.1 Ex.ret) (T.ret (y.2.2.2.1, y.2.2.2.2.1)) T.fail)
noncomputable def ref48_Light (x : ((List ((Int × Int × Int) × (Int × Int × Int) × Int)) × (List ((Int × Int × Int) × (Int × Int × Int) × (Int × Int × Int) × Int)) × (List (Int × Int × Int × Int)) × Int × (List (Int × Int × Int)) × ((Int × Int × Int) × (Int × Int × Int) × (Int × Int × Int) × Int × Int × Int) × Int × Int) × Int) : Option ((Int × Int × Int) × Bool) := (ref48_Light.t x).run
noncomputable def ref48_Light.q : List AV → T AV := entry [TScn, TI] (outR [TP, .bool]) fun x => .opt (ref48_Light x) .ret
theorem ref48_Light.ok : FnOK Tryd.prog 41 ref48_Light.q :=
  entry_call (ps := [TScn, TI]) (rs := [TP, .bool]) (F := ({ quiet := Xs, deep := noDeep } : Fns)) (D := D0) (S := tabS [(0, loopS ref48_Light.L0 29 0 [.exit 0, .ret] ref48_Light.l0)]) (t := ref48_Light.t) mixed Xok (deep_none _) Tryd.func41 (by kernel_rfl) (sok_fn ⟨ref48_Light.k0, trivial⟩) (by kernel_rfl) (fun x => by kernel_rfl)
end Go.Proofs.Pen

namespace Go.Proofs.Pen
open Go Go.Proofs
noncomputable def ref48_Alike.t (x : ((List ((Int × Int × Int) × (Int × Int × Int) × Int)) × (List ((Int × Int × Int) × (Int × Int × Int) × (Int × Int × Int) × Int)) × (List (Int × Int × Int × Int)) × Int × (List (Int × Int × Int)) × ((Int × Int × Int) × (Int × Int × Int) × (Int × Int × Int) × Int × Int × Int) × Int × Int) × Int × ((List ((Int × Int × Int) × (Int × Int × Int) × Int)) × (List ((Int × Int × Int) × (Int × Int × Int) × (Int × Int × Int) × Int)) × (List (Int × Int × Int × Int)) × Int × (List (Int × Int × Int)) × ((Int × Int × Int) × (Int × Int × Int) × (Int × Int × Int) × Int × Int × Int) × Int × Int) × Int) : T (Bool) := T.opt (lget x.1.2.1 x.2.1) fun y => T.opt (lget x.2.2.1.2.1 x.2.2.2) fun y_1 => T.opt (ref48_Light (x.1, x.2.1)) fun y_2 => T.opt (ref48_Light x.2.2) fun y_3 => T.ite (y.1.1 == y_1.fst.fst && (y.1.2.1 == y_1.fst.snd.fst && y.1.2.2 == y_1.fst.snd.snd) && (y.2.1.1 == y_1.snd.fst.fst && (y.2.1.2.1 == y_1.snd.fst.snd.fst && y.2.1.2.2 == y_1.snd.fst.snd.snd)) && (y.2.2.1.1 == y_1.snd.snd.fst.fst && (y.2.2.1.2.1 == y_1.snd.snd.fst.snd.fst && y.2.2.1.2.2 == y_1.snd.snd.fst.snd.snd))) (T.opt (lget x.1.1 y.2.2.2) fun y => T.opt (lget x.2.2.1.1 y_1.snd.snd.snd) fun y_4 => T.ret (y.1.1 == y_4.fst.fst && (y.1.2.1 == y_4.fst.snd.fst && y.1.2.2 == y_4.fst.snd.snd) && (y.2.1.1 == y_4.snd.fst.fst && (y.2.1.2.1 == y_4.snd.fst.snd.fst && y.2.1.2.2 == y_4.snd.fst.snd.snd) && y.2.2 == y_4.snd.snd) && (y_2.fst.fst == y_3.fst.fst && (y_2.fst.snd.fst == y_3.fst.snd.fst && y_2.fst.snd.snd == y_3.fst.snd.snd)) && y_2.snd == y_3.snd)) (T.ret false)
noncomputable def ref48_Alike (x : ((List ((Int × Int × Int) × (Int × Int × Int) × Int)) × (List ((Int × Int × Int) × (Int × Int × Int) × (Int × Int × Int) × Int)) × (List (Int × Int × Int × Int)) × Int × (List (Int × Int × Int)) × ((Int × Int × Int) × (Int × Int × Int) × (Int × Int × Int) × Int × Int × Int) × Int × Int) × Int × ((List ((Int × Int × Int) × (Int × Int × Int) × Int)) × (List ((Int × Int × Int) × (Int × Int × Int) × (Int × Int × Int) × Int)) × (List (Int × Int × Int × Int)) × Int × (List (Int × Int × Int)) × ((Int × Int × Int) × (Int × Int × Int) × (Int × Int × Int) × Int × Int × Int) × Int × Int) × Int) : Option (Bool) := (ref48_Alike.t x).run
noncomputable def ref48_Alike.q : List AV → T AV := entry [TScn, TI, TScn, TI] (outR [.bool]) fun x => .opt (ref48_Alike x) .ret
theorem ref48_Alike.ok : FnOK Tryd.prog 17 ref48_Alike.q :=
  entry_call (ps := [TScn, TI, TScn, TI]) (rs := [.bool]) (F := ({ quiet := (ext Xs 41 ref48_Light.q), deep := noDeep } : Fns)) (D := D0) (S := tabS []) (t := ref48_Alike.t) mixed (quiet_ext Xok ref48_Light.ok) (deep_none _) Tryd.func17 (by kernel_rfl) (sok_fn trivial) (by kernel_rfl) (fun x => by kernel_rfl)
end Go.Proofs.Pen

namespace Go.Proofs.Pen
open Go Go.Proofs
def ref41_Right.L2 : List (Nat × Lay) := [(0, .val (.sl TI)), (2, .val .bool), (3, .val TI), (4, .val TI), (5, .val TI)]
noncomputable def ref41_Right.t2 (x : (List (Int)) × Bool × Int × Int × Int × Unit) : T (Ex × (List (Int)) × Bool × Int × Int × Int × Unit) := T.ite (decide (x.2.2.2.2.1 < (↑(List.length x.1) : Int))) (T.opt (lget x.1 x.2.2.2.2.1) fun y => T.ite (y == x.2.2.1) (T.ret (Ex.normal, x.1, x.2.1, x.2.2.1, W (x.2.2.2.1 + (1 : Int)), W (x.2.2.2.2.1 + (1 : Int)), ())) (T.ret (Ex.normal, x.1, x.2.1, x.2.2.1, x.2.2.2.1, W (x.2.2.2.2.1 + (1 : Int)), ()))) (T.ret (Ex.exit (2 : Nat), x.1, x.2.1, x.2.2.1, x.2.2.2.1, x.2.2.2.2.1, ()))
noncomputable def ref41_Right.l2 (x : (List (Int)) × Bool × Int × Int × Int × Unit) : Option (Ex × (List (Int)) × Bool × Int × Int × Int × Unit) := (iterT ref41_Right.t2 rounds x).run
theorem ref41_Right.k2 : bodies 2 (lp Tryd.f24 [0]) = [.loop (loopIn 2 (lp Tryd.f24 [0]))] ∧ WP Tryd.prog 0 (.block 2 (.loop (loopIn 2 (lp Tryd.f24 [0])))) (loopS ref41_Right.L2 28 2 [.exit 2] ref41_Right.l2) :=
  loop_tree (L := ref41_Right.L2) (F := ({ quiet := Xs, deep := noDeep } : Fns)) (D := D0) (tab := []) (t := ref41_Right.t2) mixed Xok (deep_none _) (fun _ => rfl) (by kernel_rfl) (by kernel_rfl) trivial (fun x => by kernel_rfl)
def ref41_Right.L0 : List (Nat × Lay) := [(0, .val (.sl TI)), (2, .val .bool), (3, .val TI)]
noncomputable def ref41_Right.t0 (x : (List (Int)) × Bool × Int × Unit) : T (Ex × (List (Int)) × Bool × Int × Unit) := T.ite (decide (x.2.2.1 < (↑(List.length x.1) : Int))) (T.opt (ref41_Right.l2 (x.1, x.2.1, x.2.2.1, (0 : Int), (0 : Int), ())) fun y => T.ite (exEq y.1 (Ex.exit (2 : Nat))) (T.ite (y.2.2.2.2.1 != (1 : Int)) (T.ret (Ex.ret, y.2.1, false, y.2.2.2.1, ())) (T.ret (Ex.normal, y.2.1, y.2.2.1, W (y.2.2.2.1 + (1 : Int)), ()))) T.fail) (T.ret (Ex.exit (0 : Nat), x.1, x.2.1, x.2.2.1, ()))
noncomputable def ref41_Right.l0 (x : (List (Int)) × Bool × Int × Unit) : Option (Ex × (List (Int)) × Bool × Int × Unit) := (iterT ref41_Right.t0 rounds x).run
theorem ref41_Right.k0 : bodies 0 (lp Tryd.f24 []) = [.loop (loopIn 0 (lp Tryd.f24 []))] ∧ WP Tryd.prog 0 (.block 0 (.loop (loopIn 0 (lp Tryd.f24 [])))) (loopS ref41_Right.L0 28 0 [.exit 0, .ret] ref41_Right.l0) :=
  loop_tree (L := ref41_Right.L0) (F := ({ quiet := Xs, deep := noDeep } : Fns)) (D := D0) (tab := [(2, loopS ref41_Right.L2 28 2 [.exit 2] ref41_Right.l2)]) (t := ref41_Right.t0) mixed Xok (deep_none _) (fun _ => rfl) (by kernel_rfl) (by kernel_rfl) ⟨ref41_Right.k2, trivial⟩ (fun x => by kernel_rfl)
noncomputable def ref41_Right.t (x : (List (Int))) : T (Bool) := T.opt (ref41_Right.l0 (x, false, (0 : Int), ())) fun y => T.ite (exEq y.1 (Ex.exit (0 : Nat))) (T.ret true) (T.ite (exEq y.1 Ex.ret) (T.ret y.2.2.1) T.fail)
noncomputable def ref41_Right (x : (List (Int))) : Option (Bool) := (ref41_Right.t x).run
noncomputable def ref41_Right.q : List AV → T AV := entry [(.sl TI)] (outR [.bool]) fun x => .opt (ref41_Right x) .ret
theorem ref41_Right.ok : FnOK Tryd.prog 24 ref41_Right.q :=
  entry_call (ps := [(.sl TI)]) (rs := [.bool]) (F := ({ quiet := Xs, deep := noDeep } : Fns)) (D := D0) (S := tabS [(0, loopS ref41_Right.L0 28 0 [.exit 0, .ret] ref41_Right.l0)]) (t := ref41_Right.t) mixed Xok (deep_none _) Tryd.func24 (by kernel_rfl) (sok_fn ⟨ref41_Right.k0, trivial⟩) (by kernel_rfl) (fun x => by kernel_rfl)
end Go.Proofs.Pen

namespace Go.Proofs.Pen
open Go Go.Proofs
noncomputable def merge_Join_1.t (x : Int × Int) : T (Int) := T.ret (W (x.1 + x.2))
noncomputable def merge_Join_1.q : List AV → T AV := entry [TI, TI] (outR [TI]) merge_Join_1.t
theorem merge_Join_1.ok : FnOK Tryd.prog 29 merge_Join_1.q :=
  entry_in (ps := [TI, TI]) (rs := [TI]) (F := ({ quiet := Xs, deep := noDeep } : Fns)) (D := D0) (S := tabS []) (t := merge_Join_1.t) mixed Xok (deep_none _) Tryd.func29 (by kernel_rfl) (sok_fn trivial) (by kernel_rfl) (fun x => by kernel_rfl)
end Go.Proofs.Pen

namespace Go.Proofs.Pen
open Go Go.Proofs
def law48_MergeWithout.L0 : List (Nat × Lay) := [(1, .val TI), (2, .val (.sl TI)), (3, .box TScn), (6, .val .bool), (7, .box TScn), (9, .box TScn), (10, .val TE), (12, .val TI)]
noncomputable def law48_MergeWithout.t0 (x : Int × (List (Int)) × ((List ((Int × Int × Int) × (Int × Int × Int) × Int)) × (List ((Int × Int × Int) × (Int × Int × Int) × (Int × Int × Int) × Int)) × (List (Int × Int × Int × Int)) × Int × (List (Int × Int × Int)) × ((Int × Int × Int) × (Int × Int × Int) × (Int × Int × Int) × Int × Int × Int) × Int × Int) × Bool × ((List ((Int × Int × Int) × (Int × Int × Int) × Int)) × (List ((Int × Int × Int) × (Int × Int × Int) × (Int × Int × Int) × Int)) × (List (Int × Int × Int × Int)) × Int × (List (Int × Int × Int)) × ((Int × Int × Int) × (Int × Int × Int) × (Int × Int × Int) × Int × Int × Int) × Int × Int) × ((List ((Int × Int × Int) × (Int × Int × Int) × Int)) × (List ((Int × Int × Int) × (Int × Int × Int) × (Int × Int × Int) × Int)) × (List (Int × Int × Int × Int)) × Int × (List (Int × Int × Int)) × ((Int × Int × Int) × (Int × Int × Int) × (Int × Int × Int) × Int × Int × Int) × Int × Int) × ErrD × Int × Unit) : T (Ex × Int × (List (Int)) × ((List ((Int × Int × Int) × (Int × Int × Int) × Int)) × (List ((Int × Int × Int) × (Int × Int × Int) × (Int × Int × Int) × Int)) × (List (Int × Int × Int × Int)) × Int × (List (Int × Int × Int)) × ((Int × Int × Int) × (Int × Int × Int) × (Int × Int × Int) × Int × Int × Int) × Int × Int) × Bool × ((List ((Int × Int × Int) × (Int × Int × Int) × Int)) × (List ((Int × Int × Int) × (Int × Int × Int) × (Int × Int × Int) × Int)) × (List (Int × Int × Int × Int)) × Int × (List (Int × Int × Int)) × ((Int × Int × Int) × (Int × Int × Int) × (Int × Int × Int) × Int × Int × Int) × Int × Int) × ((List ((Int × Int × Int) × (Int × Int × Int) × Int)) × (List ((Int × Int × Int) × (Int × Int × Int) × (Int × Int × Int) × Int)) × (List (Int × Int × Int × Int)) × Int × (List (Int × Int × Int)) × ((Int × Int × Int) × (Int × Int × Int) × (Int × Int × Int) × Int × Int × Int) × Int × Int) × ErrD × Int × Unit) := T.ite (decide (x.2.2.2.2.2.2.2.1 < (↑(List.length x.2.2.2.2.1.2.1) : Int))) (T.ite (decide (x.2.2.2.2.2.2.2.1 ≥ x.1)) (T.opt (ref48_Alike (x.2.2.1, W (x.2.2.2.2.2.2.2.1 + (1 : Int)), x.2.2.2.2.1, x.2.2.2.2.2.2.2.1)) fun y => T.ite (!y) (T.ret (Ex.ret, x.1, x.2.1, x.2.2.1, false, x.2.2.2.2.1, x.2.2.2.2.2.1, x.2.2.2.2.2.2.1, x.2.2.2.2.2.2.2.1, ())) (T.ret (Ex.normal, x.1, x.2.1, x.2.2.1, x.2.2.2.1, x.2.2.2.2.1, x.2.2.2.2.2.1, x.2.2.2.2.2.2.1, W (x.2.2.2.2.2.2.2.1 + (1 : Int)), ()))) (T.opt (ref48_Alike (x.2.2.1, x.2.2.2.2.2.2.2.1, x.2.2.2.2.1, x.2.2.2.2.2.2.2.1)) fun y => T.ite (!y) (T.ret (Ex.ret, x.1, x.2.1, x.2.2.1, false, x.2.2.2.2.1, x.2.2.2.2.2.1, x.2.2.2.2.2.2.1, x.2.2.2.2.2.2.2.1, ())) (T.ret (Ex.normal, x.1, x.2.1, x.2.2.1, x.2.2.2.1, x.2.2.2.2.1, x.2.2.2.2.2.1, x.2.2.2.2.2.2.1, W (x.2.2.2.2.2.2.2.1 + (1 : Int)), ())))) (T.ret (Ex.exit (0 : Nat), x.1, x.2.1, x.2.2.1, x.2.2.2.1, x.2.2.2.2.1, x.2.2.2.2.2.1, x.2.2.2.2.2.2.1, x.2.2.2.2.2.2.2.1, ()))
noncomputable def law48_MergeWithout.l0 (x : Int × (List (Int)) × ((List ((Int × Int × Int) × (Int × Int × Int) × Int)) × (List ((Int × Int × Int) × (Int × Int × Int) × (Int × Int × Int) × Int)) × (List (Int × Int × Int × Int)) × Int × (List (Int × Int × Int)) × ((Int × Int × Int) × (Int × Int × Int) × (Int × Int × Int) × Int × Int × Int) × Int × Int) × Bool × ((List ((Int × Int × Int) × (Int × Int × Int) × Int)) × (List ((Int × Int × Int) × (Int × Int × Int) × (Int × Int × Int) × Int)) × (List (Int × Int × Int × Int)) × Int × (List (Int × Int × Int)) × ((Int × Int × Int) × (Int × Int × Int) × (Int × Int × Int) × Int × Int × Int) × Int × Int) × ((List ((Int × Int × Int) × (Int × Int × Int) × Int)) × (List ((Int × Int × Int) × (Int × Int × Int) × (Int × Int × Int) × Int)) × (List (Int × Int × Int × Int)) × Int × (List (Int × Int × Int)) × ((Int × Int × Int) × (Int × Int × Int) × (Int × Int × Int) × Int × Int × Int) × Int × Int) × ErrD × Int × Unit) : Option (Ex × Int × (List (Int)) × ((List ((Int × Int × Int) × (Int × Int × Int) × Int)) × (List ((Int × Int × Int) × (Int × Int × Int) × (Int × Int × Int) × Int)) × (List (Int × Int × Int × Int)) × Int × (List (Int × Int × Int)) × ((Int × Int × Int) × (Int × Int × Int) × (Int × Int × Int) × Int × Int × Int) × Int × Int) × Bool × ((List ((Int × Int × Int) × (Int × Int × Int) × Int)) × (List ((Int × Int × Int) × (Int × Int × Int) × (Int × Int × Int) × Int)) × (List (Int × Int × Int × Int)) × Int × (List (Int × Int × Int)) × ((Int × Int × Int) × (Int × Int × Int) × (Int × Int × Int) × Int × Int × Int) × Int × Int) × ((List ((Int × Int × Int) × (Int × Int × Int) × Int)) × (List ((Int × Int × Int) × (Int × Int × Int) × (Int × Int × Int) × Int)) × (List (Int × Int × Int × Int)) × Int × (List (Int × Int × Int)) × ((Int × Int × Int) × (Int × Int × Int) × (Int × Int × Int) × Int × Int × Int) × Int × Int) × ErrD × Int × Unit) := (iterT law48_MergeWithout.t0 rounds x).run
theorem law48_MergeWithout.k0 : bodies 0 (lp Tryd.f6 []) = [.loop (loopIn 0 (lp Tryd.f6 []))] ∧ WP Tryd.prog 0 (.block 0 (.loop (loopIn 0 (lp Tryd.f6 [])))) (loopS law48_MergeWithout.L0 157 0 [.exit 0, .ret] law48_MergeWithout.l0) :=
  loop_tree (L := law48_MergeWithout.L0) (F := ({ quiet := (ext (ext (ext (ext (ext (ext (ext (ext (ext (ext (ext Xs 7 law22_Light.q) 8 law48_awake.q) 22 merge_Without.q) 23 merge_Order.q) 10 ref22_Check.q) 11 law48_wrong.q) 17 ref48_Alike.q) 24 ref41_Right.q) 29 merge_Join_1.q) 68 scene_lights_1.q) 72 scene_within_1.q), deep := noDeep } : Fns)) (D := D0) (tab := []) (t := law48_MergeWithout.t0) mixed (quiet_ext (quiet_ext (quiet_ext (quiet_ext (quiet_ext (quiet_ext (quiet_ext (quiet_ext (quiet_ext (quiet_ext (quiet_ext Xok law22_Light.ok) law48_awake.ok) merge_Without.ok) merge_Order.ok) ref22_Check.ok) law48_wrong.ok) ref48_Alike.ok) ref41_Right.ok) merge_Join_1.ok) scene_lights_1.ok) scene_within_1.ok) (deep_none _) (fun _ => rfl) (by kernel_rfl) (by kernel_rfl) trivial (fun x => by kernel_rfl)
def law48_MergeWithout.L2 : List (Nat × Lay) := [(2, .val (.sl TI)), (3, .box TScn), (6, .val .bool), (9, .box TScn), (10, .val TE), (14, .val TI)]
noncomputable def law48_MergeWithout.t2 (x : (List (Int)) × ((List ((Int × Int × Int) × (Int × Int × Int) × Int)) × (List ((Int × Int × Int) × (Int × Int × Int) × (Int × Int × Int) × Int)) × (List (Int × Int × Int × Int)) × Int × (List (Int × Int × Int)) × ((Int × Int × Int) × (Int × Int × Int) × (Int × Int × Int) × Int × Int × Int) × Int × Int) × Bool × ((List ((Int × Int × Int) × (Int × Int × Int) × Int)) × (List ((Int × Int × Int) × (Int × Int × Int) × (Int × Int × Int) × Int)) × (List (Int × Int × Int × Int)) × Int × (List (Int × Int × Int)) × ((Int × Int × Int) × (Int × Int × Int) × (Int × Int × Int) × Int × Int × Int) × Int × Int) × ErrD × Int × Unit) : T (Ex × (List (Int)) × ((List ((Int × Int × Int) × (Int × Int × Int) × Int)) × (List ((Int × Int × Int) × (Int × Int × Int) × (Int × Int × Int) × Int)) × (List (Int × Int × Int × Int)) × Int × (List (Int × Int × Int)) × ((Int × Int × Int) × (Int × Int × Int) × (Int × Int × Int) × Int × Int × Int) × Int × Int) × Bool × ((List ((Int × Int × Int) × (Int × Int × Int) × Int)) × (List ((Int × Int × Int) × (Int × Int × Int) × (Int × Int × Int) × Int)) × (List (Int × Int × Int × Int)) × Int × (List (Int × Int × Int)) × ((Int × Int × Int) × (Int × Int × Int) × (Int × Int × Int) × Int × Int × Int) × Int × Int) × ErrD × Int × Unit) := T.ite (decide (x.2.2.2.2.2.1 < (↑(List.length x.1) : Int))) (T.ite (!ErrD.isNil x.2.2.2.2.1) (T.ret (Ex.ret, x.1, x.2.1, false, x.2.2.2.1, x.2.2.2.2.1, x.2.2.2.2.2.1, ())) (T.opt (lget x.1 x.2.2.2.2.2.1) fun y => T.opt (ref48_Alike (x.2.1, y, x.2.2.2.1, x.2.2.2.2.2.1)) fun y => T.ite (!y) (T.ret (Ex.ret, x.1, x.2.1, false, x.2.2.2.1, x.2.2.2.2.1, x.2.2.2.2.2.1, ())) (T.ret (Ex.normal, x.1, x.2.1, x.2.2.1, x.2.2.2.1, x.2.2.2.2.1, W (x.2.2.2.2.2.1 + (1 : Int)), ())))) (T.ret (Ex.exit (2 : Nat), x.1, x.2.1, x.2.2.1, x.2.2.2.1, x.2.2.2.2.1, x.2.2.2.2.2.1, ()))
noncomputable def law48_MergeWithout.l2 (x : (List (Int)) × ((List ((Int × Int × Int) × (Int × Int × Int) × Int)) × (List ((Int × Int × Int) × (Int × Int × Int) × (Int × Int × Int) × Int)) × (List (Int × Int × Int × Int)) × Int × (List (Int × Int × Int)) × ((Int × Int × Int) × (Int × Int × Int) × (Int × Int × Int) × Int × Int × Int) × Int × Int) × Bool × ((List ((Int × Int × Int) × (Int × Int × Int) × Int)) × (List ((Int × Int × Int) × (Int × Int × Int) × (Int × Int × Int) × Int)) × (List (Int × Int × Int × Int)) × Int × (List (Int × Int × Int)) × ((Int × Int × Int) × (Int × Int × Int) × (Int × Int × Int) × Int × Int × Int) × Int × Int) × ErrD × Int × Unit) : Option (Ex × (List (Int)) × ((List ((Int × Int × Int) × (Int × Int × Int) × Int)) × (List ((Int × Int × Int) × (Int × Int × Int) × (Int × Int × Int) × Int)) × (List (Int × Int × Int × Int)) × Int × (List (Int × Int × Int)) × ((Int × Int × Int) × (Int × Int × Int) × (Int × Int × Int) × Int × Int × Int) × Int × Int) × Bool × ((List ((Int × Int × Int) × (Int × Int × Int) × Int)) × (List ((Int × Int × Int) × (Int × Int × Int) × (Int × Int × Int) × Int)) × (List (Int × Int × Int × Int)) × Int × (List (Int × Int × Int)) × ((Int × Int × Int) × (Int × Int × Int) × (Int × Int × Int) × Int × Int × Int) × Int × Int) × ErrD × Int × Unit) := (iterT law48_MergeWithout.t2 rounds x).run
theorem law48_MergeWithout.k2 : bodies 2 (lp Tryd.f6 []) = [.loop (loopIn 2 (lp Tryd.f6 []))] ∧ WP Tryd.prog 0 (.block 2 (.loop (loopIn 2 (lp Tryd.f6 [])))) (loopS law48_MergeWithout.L2 157 2 [.exit 2, .ret] law48_MergeWithout.l2) :=
  loop_tree (L := law48_MergeWithout.L2) (F := ({ quiet := (ext (ext (ext (ext (ext (ext (ext (ext (ext (ext (ext Xs 7 law22_Light.q) 8 law48_awake.q) 22 merge_Without.q) 23 merge_Order.q) 10 ref22_Check.q) 11 law48_wrong.q) 17 ref48_Alike.q) 24 ref41_Right.q) 29 merge_Join_1.q) 68 scene_lights_1.q) 72 scene_within_1.q), deep := noDeep } : Fns)) (D := D0) (tab := []) (t := law48_MergeWithout.t2) mixed (quiet_ext (quiet_ext (quiet_ext (quiet_ext (quiet_ext (quiet_ext (quiet_ext (quiet_ext (quiet_ext (quiet_ext (quiet_ext Xok law22_Light.ok) law48_awake.ok) merge_Without.ok) merge_Order.ok) ref22_Check.ok) law48_wrong.ok) ref48_Alike.ok) ref41_Right.ok) merge_Join_1.ok) scene_lights_1.ok) scene_within_1.ok) (deep_none _) (fun _ => rfl) (by kernel_rfl) (by kernel_rfl) trivial (fun x => by kernel_rfl)
noncomputable def law48_MergeWithout.t (x : ((List ((Int × Int × Int) × (Int × Int × Int) × Int)) × (List ((Int × Int × Int) × (Int × Int × Int) × (Int × Int × Int) × Int)) × (List (Int × Int × Int × Int)) × Int × (List (Int × Int × Int)) × ((Int × Int × Int) × (Int × Int × Int) × (Int × Int × Int) × Int × Int × Int) × Int × Int) × Int × (List (Int))) : T (Bool) := T.ite (!(decide ((↑x.1.1.length : Int) ≤ (40 : Int)) && decide ((↑x.1.2.1.length : Int) ≤ (60 : Int)) && decide ((↑x.1.2.2.1.length : Int) ≤ (60 : Int)) && decide ((↑x.1.2.2.2.2.1.length : Int) ≤ (200 : Int))) || decide ((↑(List.length x.2.2) : Int) > (80 : Int))) (T.ret true) (T.opt (merge_Without (x.1, x.2.1)) fun y => T.opt (merge_Order (x.1, x.2.2)) fun y_1 => T.opt (ref22_Check x.1) fun y_2 => T.ite (!(y_2.fst == (0 : Int) && (y_2.snd.fst == (0 : Int) && y_2.snd.snd == (0 : Int)))) (T.ite true (T.opt (law48_wrong (y.2, y_2)) fun y => T.ite y (T.opt (law48_wrong (y_1.snd, y_2)) fun y => T.ret y) (T.ret false)) (T.ret false)) (T.ite (decide (x.2.1 < (0 : Int)) || decide (x.2.1 ≥ (↑(List.length x.1.2.1) : Int))) (T.ite (ErrD.top y.2 != (3 : Int)) (T.ret false) (T.ite ((↑(List.length x.2.2) : Int) != (↑(List.length x.1.2.1) : Int)) (T.ite true (T.ret (ErrD.top y_1.snd == (2 : Int))) (T.ret false)) (T.opt (ref41_Right x.2.2) fun y => T.ite (!y) (T.ite true (T.ret (ErrD.top y_1.snd == (2 : Int))) (T.ret false)) (T.opt (law48_MergeWithout.l2 (x.2.2, x.1, false, y_1.fst, y_1.snd, (0 : Int), ())) fun y => T.ite (exEq y.1 (Ex.exit (2 : Nat))) (T.ite (ErrD.isNil y.2.2.2.2.2.1) (T.opt (ref22_Check y.2.2.2.2.1) fun y_3 => T.ret (y_3.fst == (0 : Int) && (y_3.snd.fst == (0 : Int) && y_3.snd.snd == (0 : Int)) && (↑(List.length y.2.2.2.2.1.2.2.1) : Int) == (↑(List.length y.2.2.1.2.2.1) : Int))) (T.ret false)) (T.ite (exEq y.1 Ex.ret) (T.ret y.2.2.2.1) T.fail))))) (T.ite (!ErrD.isNil y.2 || (↑(List.length y.1.2.1) : Int) != W ((↑(List.length x.1.2.1) : Int) - (1 : Int))) (T.ret false) (T.opt (ref22_Check y.1) fun y_3 => T.ite (!(y_3.fst == (0 : Int) && (y_3.snd.fst == (0 : Int) && y_3.snd.snd == (0 : Int)))) (T.ret false) (T.opt (law48_MergeWithout.l0 (x.2.1, x.2.2, x.1, false, y.1, y_1.fst, y_1.snd, (0 : Int), ())) fun y => T.ite (exEq y.1 (Ex.exit (0 : Nat))) (T.ite ((↑(List.length y.2.2.1) : Int) != (↑(List.length y.2.2.2.1.2.1) : Int)) (T.ite true (T.ret (ErrD.top y.2.2.2.2.2.2.2.1 == (2 : Int))) (T.ret false)) (T.opt (ref41_Right y.2.2.1) fun y_4 => T.ite (!y_4) (T.ite true (T.ret (ErrD.top y.2.2.2.2.2.2.2.1 == (2 : Int))) (T.ret false)) (T.opt (law48_MergeWithout.l2 (y.2.2.1, y.2.2.2.1, y.2.2.2.2.1, y.2.2.2.2.2.2.1, y.2.2.2.2.2.2.2.1, (0 : Int), ())) fun y => T.ite (exEq y.1 (Ex.exit (2 : Nat))) (T.ite (ErrD.isNil y.2.2.2.2.2.1) (T.opt (ref22_Check y.2.2.2.2.1) fun y_5 => T.ret (y_5.fst == (0 : Int) && (y_5.snd.fst == (0 : Int) && y_5.snd.snd == (0 : Int)) && (↑(List.length y.2.2.2.2.1.2.2.1) : Int) == (↑(List.length y.2.2.1.2.2.1) : Int))) (T.ret false)) (T.ite (exEq y.1 Ex.ret) (T.ret y.2.2.2.1) T.fail)))) (T.ite (exEq y.1 Ex.ret) (T.ret y.2.2.2.2.1) T.fail))))))
noncomputable def law48_MergeWithout (x : ((List ((Int × Int × Int) × (Int × Int × Int) × Int)) × (List ((Int × Int × Int) × (Int × Int × Int) × (Int × Int × Int) × Int)) × (List (Int × Int × Int × Int)) × Int × (List (Int × Int × Int)) × ((Int × Int × Int) × (Int × Int × Int) × (Int × Int × Int) × Int × Int × Int) × Int × Int) × Int × (List (Int))) : Option (Bool) := (law48_MergeWithout.t x).run
noncomputable def law48_MergeWithout.q : List AV → T AV := entry [TScn, TI, (.sl TI)] (outR [.bool]) fun x => .opt (law48_MergeWithout x) .ret
theorem law48_MergeWithout.ok : FnOK Tryd.prog 6 law48_MergeWithout.q :=
  entry_call (ps := [TScn, TI, (.sl TI)]) (rs := [.bool]) (F := ({ quiet := (ext (ext (ext (ext (ext (ext (ext (ext (ext (ext (ext Xs 7 law22_Light.q) 8 law48_awake.q) 22 merge_Without.q) 23 merge_Order.q) 10 ref22_Check.q) 11 law48_wrong.q) 17 ref48_Alike.q) 24 ref41_Right.q) 29 merge_Join_1.q) 68 scene_lights_1.q) 72 scene_within_1.q), deep := noDeep } : Fns)) (D := D0) (S := tabS [(0, loopS law48_MergeWithout.L0 157 0 [.exit 0, .ret] law48_MergeWithout.l0), (2, loopS law48_MergeWithout.L2 157 2 [.exit 2, .ret] law48_MergeWithout.l2)]) (t := law48_MergeWithout.t) mixed (quiet_ext (quiet_ext (quiet_ext (quiet_ext (quiet_ext (quiet_ext (quiet_ext (quiet_ext (quiet_ext (quiet_ext (quiet_ext Xok law22_Light.ok) law48_awake.ok) merge_Without.ok) merge_Order.ok) ref22_Check.ok) law48_wrong.ok) ref48_Alike.ok) ref41_Right.ok) merge_Join_1.ok) scene_lights_1.ok) scene_within_1.ok) (deep_none _) Tryd.func6 (by kernel_rfl) (sok_fn ⟨law48_MergeWithout.k0, law48_MergeWithout.k2, trivial⟩) (by kernel_rfl) (fun x => by kernel_rfl)
end Go.Proofs.Pen

namespace Go.Proofs.Pen
open Go Go.Proofs

/-! ### How much a triangle shines -/
def litAt (L : List LitT) (t : Int) : Option W3 := (L.find? fun l => l.1 == t).map (·.2)
def litR : Option W3 → W3 × Bool
  | some p => (p, true)
  | none => ((0, 0, 0), false)

theorem find_drop {α : Type} {p : α → Bool} {l : List α} {k : Nat} (h : k < l.length) : (l.drop k).find? p = if p l[k] = true then some l[k] else (l.drop (k + 1)).find? p := by
  rw [List.drop_eq_getElem_cons h, List.find?_cons]
  cases p l[k] <;> rfl

theorem RLight_run (x : ScT) (t : Int) (hx : x.2.2.1.length ≤ 900) : ∀ (n k m : Nat), k + n = x.2.2.1.length → n < m →
    ∃ i, (iterT ref48_Light.t0 m (t, x, (0, 0, 0), false, (k : Int), ())).run = some (match (x.2.2.1.drop k).find? fun l => l.1 == t with
      | some l => (.ret, t, x, l.2, true, i, ())
      | none => (.exit 0, t, x, (0, 0, 0), false, i, ()))
  | n, k, 0, _, hm => absurd hm (Nat.not_lt_zero _)
  | 0, k, m + 1, hk, _ => by
    refine ⟨(k : Int), ?_⟩
    rw [List.drop_eq_nil_of_le (by omega), List.find?_nil]
    refine iter_stop (by simp) ?_
    unfold ref48_Light.t0
    dsimp only
    rw [tr_no (by simp; omega), tr_ret]
  | n + 1, k, m + 1, hk, hm => by
    have hlt : k < x.2.2.1.length := by omega
    rw [find_drop hlt]
    by_cases hc : (x.2.2.1[k].1 == t) = true
    · refine ⟨(k : Int), ?_⟩
      rw [if_pos hc]
      refine iter_stop (by simp) ?_
      unfold ref48_Light.t0
      dsimp only
      rw [tr_yes (by simp; omega), tr_opt, lget_nat _ hlt, Option.bind_some, tr_yes hc, tr_opt, Option.bind_some, tr_ret]
    · obtain ⟨i, hi⟩ := RLight_run x t hx n (k + 1) m (by omega) (by omega)
      refine ⟨i, ?_⟩
      rw [if_neg hc, ← hi]
      refine iter_go ?_
      unfold ref48_Light.t0
      dsimp only
      rw [tr_yes (by simp; omega), tr_opt, lget_nat _ hlt, Option.bind_some, tr_no (by simpa using hc), tr_ret, W_succ (by omega)]

theorem RLight_eq (x : ScT) (t : Int) (hx : x.2.2.1.length ≤ 900) : ref48_Light (x, t) = some (litR (litAt x.2.2.1 t)) := by
  obtain ⟨i, hi⟩ := RLight_run x t hx x.2.2.1.length 0 rounds (by omega) (rounds_gt (by omega))
  have e0 : ref48_Light.l0 (t, x, (0, 0, 0), false, 0, ()) = _ := hi
  rw [List.drop_zero] at e0
  unfold ref48_Light ref48_Light.t
  dsimp only
  rw [tr_opt, e0, Option.bind_some]
  unfold litAt
  cases List.find? (fun l => l.1 == t) x.2.2.1 <;> rfl

theorem Alike_eq (a b : ScT) (i k : Int) (t : TriT) (ha : lget a.2.1 i = some t) (hb : lget b.2.1 k = some t) (hm : a.1 = b.1) (ht : 0 ≤ t.2.2.2 ∧ t.2.2.2 < a.1.length) (hla : a.2.2.1.length ≤ 900) (hlb : b.2.2.1.length ≤ 900) (hl : litAt a.2.2.1 i = litAt b.2.2.1 k) :
    ref48_Alike (a, i, b, k) = some true := by
  have hg : ∃ m, lget a.1 t.2.2.2 = some m := by
    obtain ⟨n, hn⟩ : ∃ n : Nat, t.2.2.2 = n := ⟨t.2.2.2.toNat, by omega⟩
    rw [hn]
    exact ⟨_, lget_nat _ (by omega)⟩
  obtain ⟨m, hg⟩ := hg
  unfold ref48_Alike ref48_Alike.t
  dsimp only
  rw [tr_opt, ha, Option.bind_some, tr_opt, hb, Option.bind_some, tr_opt, RLight_eq a i hla, Option.bind_some, tr_opt, RLight_eq b k hlb, Option.bind_some, tr_yes (by simp), tr_opt, hg, Option.bind_some, ← hm, tr_opt, hg, Option.bind_some, tr_ret, hl]
  simp

/-! ### Without a triangle -/
def woF (t : Int) (y : LitT) : Option LitT := if y.1 = t then none else if y.1 > t then some (y.1 - 1, y.2) else some y
def woL (t : Int) (L : List LitT) : List LitT := L.filterMap (woF t)
def woT (t : Int) (T : List TriT) : List TriT := T.take t.toNat ++ T.drop (t.toNat + 1)
def woS (t : Int) (x : ScT) : ScT := (x.1, woT t x.2.1, woL t x.2.2.1, x.2.2.2)

theorem woL_take (t : Int) (L : List LitT) {k : Nat} (h : k < L.length) : woL t (L.take (k + 1)) = woL t (L.take k) ++ (woF t L[k]).toList := by
  unfold woL
  rw [List.take_succ_eq_append_getElem h, List.filterMap_append]
  cases hw : woF t L[k] <;> simp [hw]
theorem woL_len (t : Int) (L : List LitT) : (woL t L).length ≤ L.length := List.length_filterMap_le _ _

theorem wo_lit (t : Int) (k : Int) : ∀ L : List LitT, litAt (woL t L) k = litAt L (if k ≥ t then k + 1 else k)
  | [] => rfl
  | l :: L => by
    have ih := wo_lit t k L
    unfold litAt woL at ih ⊢
    by_cases h1 : l.1 = t
    · rw [List.filterMap_cons_none (by unfold woF; rw [if_pos h1]), ih, List.find?_cons_of_neg]
      split <;> simp <;> omega
    · by_cases h2 : l.1 > t
      · rw [List.filterMap_cons_some (b := (l.1 - 1, l.2)) (by unfold woF; rw [if_neg h1, if_pos h2])]
        by_cases h3 : l.1 - 1 = k
        · rw [List.find?_cons_of_pos (by simpa using h3), List.find?_cons_of_pos (by rw [if_pos (by omega)]; simp; omega)]
          rfl
        · rw [List.find?_cons_of_neg (by simpa using h3), ih, List.find?_cons_of_neg (by split <;> simp <;> omega)]
      · rw [List.filterMap_cons_some (b := l) (by unfold woF; rw [if_neg h1, if_neg h2])]
        by_cases h3 : l.1 = k
        · rw [List.find?_cons_of_pos (by simpa using h3), List.find?_cons_of_pos (by rw [if_neg (by omega)]; simpa using h3)]
        · rw [List.find?_cons_of_neg (by simpa using h3), ih, List.find?_cons_of_neg (by split <;> simp <;> omega)]

theorem woT_len (t : Int) (T : List TriT) (h0 : 0 ≤ t) (h1 : t < T.length) : (woT t T).length = T.length - 1 := by
  unfold woT
  rw [List.length_append, List.length_take, List.length_drop]; omega
theorem woT_get (t : Int) (T : List TriT) (h0 : 0 ≤ t) (h1 : t < T.length) {k : Nat} (h : k < T.length - 1) : lget (woT t T) (k : Int) = lget T (if (k : Int) ≥ t then (k : Int) + 1 else k) := by
  rw [lget_nat _ (by rw [woT_len t T h0 h1]; exact h)]
  by_cases hk : (k : Int) ≥ t
  · rw [if_pos hk, show (k : Int) + 1 = ((k + 1 : Nat) : Int) by omega, lget_nat T (by omega)]
    unfold woT
    rw [List.getElem_append_right (by rw [List.length_take]; omega), List.getElem_drop]
    congr 2
    rw [List.length_take]; omega
  · rw [if_neg hk, lget_nat T (by omega)]
    unfold woT
    rw [List.getElem_append_left (by rw [List.length_take]; omega), List.getElem_take]

theorem Without_l0 (t : Int) (M : List MatT) (T : List TriT) (L : List LitT) (z : Int) (C : List W3) (c : CamT) (k h : Int) (hL : L.length ≤ 900) (hl : ∀ l ∈ L, 0 ≤ l.1 ∧ l.1 < 1000) :
    merge_Without.l0 (t, ZS, (M, T, [], z, C, c, k, h, ()), L, (L.length : Int), 0, ()) = some (.exit 0, t, ZS, (M, T, woL t L, z, C, c, k, h, ()), L, (L.length : Int), (L.length : Int), ()) := by
  have key := iter_count (t := merge_Without.t0) (fun i => (t, ZS, (M, T, woL t (L.take i), z, C, c, k, h, ()), L, (L.length : Int), (i : Int), ())) (e := .exit 0)
    (z := (t, ZS, (M, T, woL t (L.take L.length), z, C, c, k, h, ()), L, (L.length : Int), (L.length : Int), ())) (by simp) L.length 0 rounds
    (fun i _ hi => by
      have hi : i < L.length := by omega
      have hlen := woL_len t (L.take i)
      rw [List.length_take] at hlen
      obtain ⟨g1, g2⟩ := hl _ (List.getElem_mem hi)
      rw [woL_take t L hi]
      unfold merge_Without.t0
      dsimp only
      rw [tr_yes (by simp; omega), tr_opt, lget_nat _ hi, Option.bind_some, W_succ (by omega), tr_ite, tr_ite, tr_ite, tr_ite]
      simp only [List.take_length, take_snoc]
      unfold woF
      by_cases h1 : L[i].1 = t
      · rw [if_pos (by simpa using h1), if_pos h1, tr_ret]; simp
      · rw [if_neg (by simpa using h1), if_neg h1]
        by_cases h2 : L[i].1 > t
        · rw [if_pos (by simpa using h2), if_pos h2, if_pos (decide_eq_true (room (by omega) (by omega))), tr_ret, W_id (by omega) (by omega)]; rfl
        · rw [if_neg (by simpa using h2), if_neg h2, if_pos (decide_eq_true (room (by omega) (by omega))), tr_ret]; rfl)
    (by
      unfold merge_Without.t0
      dsimp only
      rw [Nat.zero_add, tr_no (by simp), List.take_length, List.take_length, List.take_length, List.take_length, List.take_length, tr_ret])
    (rounds_gt (by omega))
  simp only [List.take_zero, List.take_length] at key
  exact key

theorem Without_eq (x : ScT) (t : Int) (hx : lightB x) : merge_Without (x, t) = some (match wr x with
    | some w => (ZS, mkErr (some w))
    | none => if (decide (t < 0) || decide (t ≥ (x.2.1.length : Int))) = true then (ZS, .fault 3 0 .nil) else (woS t x, .nil)) := by
  unfold merge_Without merge_Without.t
  dsimp only
  rw [tr_opt, Check_eq x hx, Option.bind_some, tr_ite, mkErr_nil]
  cases hw : wr x with
  | some w => rfl
  | none =>
  obtain ⟨x1, x2, x3, x4⟩ := hx
  obtain ⟨_, _, tx, lx, _, _, _, _⟩ := wr_none.1 hw
  rw [if_neg (by simp), tr_ite]
  dsimp only
  by_cases hb : (decide (t < 0) || decide (t ≥ (x.2.1.length : Int))) = true
  · rw [if_pos hb, if_pos hb]; rfl
  rw [if_neg hb, if_neg hb]
  simp only [Bool.or_eq_true, decide_eq_true_eq] at hb
  have et : List.take (x.2.1.length - 1) (List.take (Int.toNat t) x.2.1 ++ List.drop (Int.toNat t + 1) x.2.1 ++ [trZ]) = woT t x.2.1 := by
    have := woT_len t x.2.1 (by omega) (by omega)
    unfold woT at this ⊢
    rw [← this, List.take_left]
  rw [tr_yes (decide_eq_true (small60 x1 (by omega))), tr_yes (decide_eq_true (small60 x2 (by omega))), tr_yes (decide_eq_true (small60 x3 (by omega))), tr_yes (decide_eq_true (small60 x4 (by omega))),
    W_id (by omega) (by omega), tr_yes (by simp; omega), et, List.take_length, List.take_length, tr_opt, Without_l0 t _ _ _ _ _ _ _ _ x3 (fun l hl => ⟨(lx l hl).1, by have := (lx l hl).2.1; omega⟩), Option.bind_some]
  dsimp only
  rw [tr_yes (by rfl), tr_ret, List.take_length, List.take_length, List.take_length, List.take_length]
  rfl

theorem ok_wo {x : ScT} {t : Int} (h0 : 0 ≤ t) (h1 : t < x.2.1.length) (hx : okS x) : okS (woS t x) := by
  obtain ⟨gx, mx, tx, lx, nx, ⟨zx, cx⟩, ex, dx⟩ := hx
  have gx := bigB_false.1 gx
  have hl := woT_len t x.2.1 h0 h1
  have hl2 := woL_len t x.2.2.1
  unfold woS
  refine ⟨bigB_false.2 ⟨gx.1, ?_, ?_, gx.2.2.2⟩, mx, ?_, ?_, ?_, ⟨zx, cx⟩, ex, ?_⟩
  · dsimp only; omega
  · dsimp only; omega
  · intro u hu
    refine tx u ?_
    dsimp only [woT] at hu
    rcases List.mem_append.1 hu with h | h
    · exact List.mem_of_mem_take h
    · exact List.mem_of_mem_drop h
  · intro u hu
    dsimp only at hu ⊢
    rw [hl]
    obtain ⟨y, hy, hf⟩ := List.mem_filterMap.1 hu
    obtain ⟨g1, g2, g3⟩ := lx y hy
    unfold woF at hf
    split at hf
    · cases hf
    split at hf
    · cases hf; exact ⟨by dsimp only; omega, by dsimp only; omega, g3⟩
    · cases hf; exact ⟨by omega, by omega, g3⟩
  · dsimp only [woL]
    rw [List.pairwise_filterMap]
    refine nx.imp fun {a b} hab c hc d hd => ?_
    unfold woF at hc hd
    split at hc
    · cases hc
    split at hd
    · cases hd
    split at hc <;> split at hd <;> cases hc <;> cases hd <;> (try dsimp only) <;> omega
  · rw [← dx]; exact cam_same rfl

/-! ### Orders -/
def atF (o : List Int) : Nat → Int → Int
  | 0, _ => 0
  | i + 1, v => if o.getD i 0 = v then (i : Int) else atF o i v
def seenL (n : Nat) (o : List Int) (i : Nat) : List Bool := (List.range n).map fun (v : Nat) => (o.take i).contains (v : Int)
def atL (n : Nat) (o : List Int) (i : Nat) : List Int := (List.range n).map fun (v : Nat) => atF o i (v : Int)
def triAt (T : List TriT) (k : Int) : TriT := T.getD k.toNat trZ
def trisL (T : List TriT) (o : List Int) (i : Nat) : List TriT := (o.take i).map (triAt T) ++ T.drop i
def badO (n : Nat) (o : List Int) (i : Nat) : Bool := decide (o.getD i 0 < 0) || decide (o.getD i 0 ≥ (n : Int)) || (o.take i).contains (o.getD i 0)
def badF (n : Nat) (o : List Int) (i : Nat) : Option W3 := if badO n o i = true then some (0, 0, 0) else none

theorem seen_len (n : Nat) (o : List Int) (i : Nat) : (seenL n o i).length = n := by unfold seenL; rw [List.length_map, List.length_range]
theorem at_len (n : Nat) (o : List Int) (i : Nat) : (atL n o i).length = n := by unfold atL; rw [List.length_map, List.length_range]
theorem tris_len (T : List TriT) (o : List Int) (i : Nat) (h : o.length = T.length) : (trisL T o i).length = T.length := by
  unfold trisL; rw [List.length_append, List.length_map, List.length_take, List.length_drop]; omega
theorem seen_get (n : Nat) (o : List Int) (i : Nat) {v : Nat} (h : v < n) : (seenL n o i)[0 + Int.toNat (v : Int)]? = some ((o.take i).contains (v : Int)) := by
  unfold seenL
  rw [Int.toNat_natCast, Nat.zero_add, List.getElem?_map, List.getElem?_range h]; rfl
theorem at_get (n : Nat) (o : List Int) (i : Nat) {v : Nat} (h : v < n) : (atL n o i)[0 + Int.toNat (v : Int)]? = some (atF o i v) := by
  unfold atL
  rw [Int.toNat_natCast, Nat.zero_add, List.getElem?_map, List.getElem?_range h]; rfl
theorem seen_at {n : Nat} {o : List Int} {i j : Nat} (h : j < (seenL n o i).length) : (seenL n o i)[j] = (o.take i).contains (j : Int) := by simp [seenL]
theorem at_at {n : Nat} {o : List Int} {i j : Nat} (h : j < (atL n o i).length) : (atL n o i)[j] = atF o i (j : Int) := by simp [atL]
theorem seen_set (n : Nat) (o : List Int) (i : Nat) (hi : i < o.length) {v : Nat} (hv : o[i] = v) : (seenL n o i).set (0 + Int.toNat (v : Int)) true = seenL n o (i + 1) := by
  refine List.ext_getElem (by rw [List.length_set, seen_len, seen_len]) fun j h1 h2 => ?_
  rw [List.getElem_set]
  rw [seen_at, seen_at, Int.toNat_natCast, Nat.zero_add, List.take_succ_eq_append_getElem hi, hv]
  by_cases h : v = j
  · rw [if_pos h]; subst h; simp
  · rw [if_neg h, Bool.eq_iff_iff]
    simp only [List.contains_iff_mem, List.mem_append, List.mem_singleton]
    constructor
    · exact .inl
    · rintro (h' | h')
      · exact h'
      · omega
theorem at_set (n : Nat) (o : List Int) (i : Nat) (hi : i < o.length) {v : Nat} (hv : o[i] = v) : (atL n o i).set (0 + Int.toNat (v : Int)) (i : Int) = atL n o (i + 1) := by
  refine List.ext_getElem (by rw [List.length_set, at_len, at_len]) fun j h1 h2 => ?_
  have hg : o.getD i 0 = (v : Int) := by rw [List.getD_eq_getElem?_getD, List.getElem?_eq_getElem hi, Option.getD_some, hv]
  rw [List.getElem_set]
  rw [at_at, at_at, Int.toNat_natCast, Nat.zero_add]
  show _ = if o.getD i 0 = (j : Int) then (i : Int) else atF o i j
  rw [hg]
  by_cases h : v = j
  · rw [if_pos h, if_pos (by omega)]
  · rw [if_neg h, if_neg (by omega)]
theorem tris_get (T : List TriT) (o : List Int) {i : Nat} (hi : i < o.length) (h : o.length = T.length) : ∃ u, (trisL T o i)[0 + Int.toNat (i : Int)]? = some u :=
  ⟨_, List.getElem?_eq_getElem (by rw [tris_len T o i h, Int.toNat_natCast]; omega)⟩
theorem tris_set (T : List TriT) (o : List Int) {i : Nat} (hi : i < o.length) (h : o.length = T.length) : (trisL T o i).set (0 + Int.toNat (i : Int)) (triAt T o[i]) = trisL T o (i + 1) := by
  have e : ((o.take i).map (triAt T)).length = i := by rw [List.length_map, List.length_take]; omega
  unfold trisL
  rw [Int.toNat_natCast, Nat.zero_add, List.set_append_right _ _ (by omega), e, Nat.sub_self, List.drop_eq_getElem_cons (l := T) (i := i) (by omega), ← map_takeS (triAt T) o hi, List.append_assoc]
  rfl
theorem seen_zero (n : Nat) (o : List Int) : List.replicate n false = seenL n o 0 := by
  refine List.ext_getElem (by rw [List.length_replicate, seen_len]) fun j h1 h2 => ?_
  rw [List.getElem_replicate, seen_at, List.take_zero]; rfl
theorem at_zero (n : Nat) (o : List Int) : List.replicate n (0 : Int) = atL n o 0 := by
  refine List.ext_getElem (by rw [List.length_replicate, at_len]) fun j h1 h2 => ?_
  rw [List.getElem_replicate, at_at]; rfl
theorem triAt_lget (T : List TriT) {k : Int} (h0 : 0 ≤ k) (h1 : k < T.length) : lget T k = some (triAt T k) := by
  obtain ⟨v, rfl⟩ : ∃ v : Nat, k = v := ⟨k.toNat, by omega⟩
  rw [lget_nat T (by omega)]
  unfold triAt
  rw [Int.toNat_natCast, List.getD_eq_getElem?_getD, List.getElem?_eq_getElem (by omega), Option.getD_some]
theorem getD_at {o : List Int} {i : Nat} (hi : i < o.length) : o.getD i 0 = o[i] := by rw [List.getD_eq_getElem?_getD, List.getElem?_eq_getElem hi, Option.getD_some]

theorem Order_l0 (x : ScT) (o : List Int) (hx : lightB x) (ho : o.length = x.2.1.length) (M : List MatT) (L : List LitT) (z : Int) (C : List W3) (c : CamT) (k h : Int) :
    ∃ w a i, merge_Order.l0 (x, ZS, .nil, atL x.2.1.length o 0, seenL x.2.1.length o 0, (M, trisL x.2.1 o 0, L, z, C, c, k, h, ()), o, (o.length : Int), 0, ()) =
      some (match firstF (badF x.2.1.length o) 0 o.length with
        | some _ => (.ret, x, ZS, .fault 2 0 .nil, a, w, i)
        | none => (.exit 0, x, ZS, .nil, atL x.2.1.length o o.length, seenL x.2.1.length o o.length, (M, trisL x.2.1 o o.length, L, z, C, c, k, h, ()), o, (o.length : Int), (o.length : Int), ())) := by
  obtain ⟨_, x2, _, _⟩ := hx
  let n := x.2.1.length
  have key := iter_first (t := merge_Order.t0) (fun i => (x, ZS, .nil, atL n o i, seenL n o i, (M, trisL x.2.1 o i, L, z, C, c, k, h, ()), o, (o.length : Int), (i : Int), ())) (badF n o)
    (fun i _ => (x, ZS, .fault 2 0 .nil, atL n o i, seenL n o i, (M, trisL x.2.1 o i, L, z, C, c, k, h, ()), o, (o.length : Int), (i : Int), ())) (e := .exit 0)
    (z := (x, ZS, .nil, atL n o o.length, seenL n o o.length, (M, trisL x.2.1 o o.length, L, z, C, c, k, h, ()), o, (o.length : Int), (o.length : Int), ())) (by simp) o.length 0 rounds
    (fun i _ hi hf => by
      have hi : i < o.length := by omega
      have hb : badO n o i = false := by
        unfold badF at hf
        split at hf
        · cases hf
        · rename_i h; simpa using h
      unfold badO at hb
      rw [getD_at hi] at hb
      simp only [Bool.or_eq_false_iff, decide_eq_false_iff_not] at hb
      obtain ⟨⟨b1, b2⟩, b3⟩ := hb
      obtain ⟨v, hv⟩ : ∃ v : Nat, o[i] = v := ⟨o[i].toNat, by omega⟩
      have hvn : v < n := by omega
      obtain ⟨u, hu⟩ := tris_get x.2.1 o hi ho
      have htr := triAt_lget x.2.1 (k := (v : Int)) (by omega) (by omega)
      have hset := tris_set x.2.1 o hi ho
      rw [hv] at b3 hset
      unfold merge_Order.t0
      dsimp only
      rw [tr_yes (by simp; omega), tr_opt, lget_nat _ hi, Option.bind_some, hv, at_len, seen_len, tr_no (by simp; omega), tr_yes (by simp; omega), tr_opt, seen_get n o i hvn, Option.bind_some, b3, tr_no rfl, tr_yes (by simp; omega), tr_opt, Option.bind_some, tr_yes (by simp; omega), tr_opt, at_get n o i hvn, Option.bind_some, tr_opt, htr, Option.bind_some,
        tris_len x.2.1 o i ho, tr_yes (by simp; omega), tr_opt, hu, Option.bind_some, tr_ret, W_succ (by omega), at_set n o i hi hv, seen_set n o i hi hv, hset, List.take_length, List.take_length, List.take_length]
      rw [List.take_of_length_le (l := atL n o (i + 1)) (by rw [at_len]; exact Nat.le_refl _), List.take_of_length_le (l := seenL n o (i + 1)) (by rw [seen_len]; exact Nat.le_refl _), List.take_of_length_le (l := trisL x.2.1 o (i + 1)) (by rw [tris_len _ _ _ ho]; exact Nat.le_refl _)])
    (fun i w _ hi hf => by
      have hi : i < o.length := by omega
      have hb : badO n o i = true := by
        unfold badF at hf
        split at hf
        · assumption
        · cases hf
      unfold badO at hb
      rw [getD_at hi] at hb
      have hN : fault_New (2, 0) = some (.fault 2 0 .nil) := New_eq (by decide)
      unfold merge_Order.t0
      dsimp only
      rw [tr_yes (by simp; omega), tr_opt, lget_nat _ hi, Option.bind_some, at_len, seen_len]
      by_cases hr : (decide (o[i] < 0) || decide (o[i] ≥ (n : Int))) = true
      · rw [tr_yes hr, tr_opt, hN, Option.bind_some, tr_ret, List.take_length, List.take_length, List.take_length, List.take_length]
        rw [List.take_of_length_le (l := atL n o i) (by rw [at_len]; exact Nat.le_refl _), List.take_of_length_le (l := seenL n o i) (by rw [seen_len]; exact Nat.le_refl _)]
      · have hr : (decide (o[i] < 0) || decide (o[i] ≥ (n : Int))) = false := by simpa using hr
        rw [hr, Bool.false_or] at hb
        have hr' := hr
        simp only [Bool.or_eq_false_iff, decide_eq_false_iff_not] at hr'
        obtain ⟨v, hv⟩ : ∃ v : Nat, o[i] = v := ⟨o[i].toNat, by omega⟩
        have hvn : v < n := by omega
        rw [hv] at hb hr
        rw [hv, tr_no hr, tr_yes (by simp; omega), tr_opt, seen_get n o i hvn, Option.bind_some, hb, tr_yes rfl, tr_opt, hN, Option.bind_some, tr_ret, List.take_length, List.take_length, List.take_length, List.take_length]
        rw [List.take_of_length_le (l := atL n o i) (by rw [at_len]; exact Nat.le_refl _), List.take_of_length_le (l := seenL n o i) (by rw [seen_len]; exact Nat.le_refl _)])
    (by
      unfold merge_Order.t0
      dsimp only
      rw [Nat.zero_add, tr_no (by simp), tr_ret, List.take_length, List.take_length, List.take_length, List.take_length, List.take_length, List.take_length])
    (rounds_gt (by omega))
  cases hf : firstF (badF n o) 0 o.length with
  | none =>
    rw [hf] at key
    exact ⟨[], [], ((M, [], L, z, C, c, k, h, ()), o, 0, 0, ()), key⟩
  | some p =>
    rw [hf] at key
    exact ⟨_, _, _, key⟩
end Go.Proofs.Pen

namespace Go.Proofs.Pen
open Go Go.Proofs
def IndexM.L0 : List (Nat × Lay) := [(0, .val (.sl TMatD)), (3, .box TMatD), (4, .val TI), (7, .val TI), (8, .val TI)]
noncomputable def IndexM.t0 (x : (List ((Int × Int × Int) × (Int × Int × Int) × Int)) × ((Int × Int × Int) × (Int × Int × Int) × Int) × Int × Int × Int × Unit) : T (Ex × (List ((Int × Int × Int) × (Int × Int × Int) × Int)) × ((Int × Int × Int) × (Int × Int × Int) × Int) × Int × Int × Int × Unit) := T.ite (decide (x.2.2.2.2.1 < x.2.2.2.1)) (T.opt (lget x.1 x.2.2.2.2.1) fun y => T.ite (x.2.1.1.1 == y.1.1 && (x.2.1.1.2.1 == y.1.2.1 && x.2.1.1.2.2 == y.1.2.2) && (x.2.1.2.1.1 == y.2.1.1 && (x.2.1.2.1.2.1 == y.2.1.2.1 && x.2.1.2.1.2.2 == y.2.1.2.2) && x.2.1.2.2 == y.2.2)) (T.ret (Ex.ret, x.1, x.2.1, x.2.2.2.2.1, x.2.2.2.1, x.2.2.2.2.1, ())) (T.ret (Ex.normal, x.1, x.2.1, x.2.2.1, x.2.2.2.1, W (x.2.2.2.2.1 + (1 : Int)), ()))) (T.ret (Ex.exit (0 : Nat), x.1, x.2.1, x.2.2.1, x.2.2.2.1, x.2.2.2.2.1, ()))
noncomputable def IndexM.l0 (x : (List ((Int × Int × Int) × (Int × Int × Int) × Int)) × ((Int × Int × Int) × (Int × Int × Int) × Int) × Int × Int × Int × Unit) : Option (Ex × (List ((Int × Int × Int) × (Int × Int × Int) × Int)) × ((Int × Int × Int) × (Int × Int × Int) × Int) × Int × Int × Int × Unit) := (iterT IndexM.t0 rounds x).run
theorem IndexM.k0 : bodies 0 (lp Tryd.f40 []) = [.loop (loopIn 0 (lp Tryd.f40 []))] ∧ WP Tryd.prog 0 (.block 0 (.loop (loopIn 0 (lp Tryd.f40 [])))) (loopS IndexM.L0 19 0 [.exit 0, .ret] IndexM.l0) :=
  loop_tree (L := IndexM.L0) (F := ({ quiet := Xs, deep := noDeep } : Fns)) (D := D0) (tab := []) (t := IndexM.t0) mixed Xok (deep_none _) (fun _ => rfl) (by kernel_rfl) (by kernel_rfl) trivial (fun x => by kernel_rfl)
noncomputable def IndexM.t (x : (List ((Int × Int × Int) × (Int × Int × Int) × Int)) × ((Int × Int × Int) × (Int × Int × Int) × Int)) : T (Int) := T.opt (IndexM.l0 (x.1, x.2, (0 : Int), (↑(List.length x.1) : Int), (0 : Int), ())) fun y => T.ite (exEq y.1 (Ex.exit (0 : Nat))) (T.ret (-1 : Int)) (T.ite (exEq y.1 Ex.ret) (T.ret y.2.2.2.1) T.fail)
noncomputable def IndexM (x : (List ((Int × Int × Int) × (Int × Int × Int) × Int)) × ((Int × Int × Int) × (Int × Int × Int) × Int)) : Option (Int) := (IndexM.t x).run
noncomputable def IndexM.q : List AV → T AV := entry [(.sl TMatD), TMatD] (outR [TI]) fun x => .opt (IndexM x) .ret
theorem IndexM.ok : FnOK Tryd.prog 40 IndexM.q :=
  entry_call (ps := [(.sl TMatD), TMatD]) (rs := [TI]) (F := ({ quiet := Xs, deep := noDeep } : Fns)) (D := D0) (S := tabS [(0, loopS IndexM.L0 19 0 [.exit 0, .ret] IndexM.l0)]) (t := IndexM.t) mixed Xok (deep_none _) Tryd.func40 (by kernel_rfl) (sok_fn ⟨IndexM.k0, trivial⟩) (by kernel_rfl) (fun x => by kernel_rfl)
end Go.Proofs.Pen

namespace Go.Proofs.Pen
open Go Go.Proofs
noncomputable def merge_Mats_1.t (x : ((Int × Int × Int) × (Int × Int × Int) × Int) × ((List ((Int × Int × Int) × (Int × Int × Int) × Int)) × (List ((Int × Int × Int) × (Int × Int × Int) × (Int × Int × Int) × Int)) × (List (Int × Int × Int × Int)) × Int × (List (Int × Int × Int)) × ((Int × Int × Int) × (Int × Int × Int) × (Int × Int × Int) × Int × Int × Int) × Int × Int)) : T (Int) := T.opt (IndexM (x.2.1, x.1)) fun y => T.ret y
noncomputable def merge_Mats_1 (x : ((Int × Int × Int) × (Int × Int × Int) × Int) × ((List ((Int × Int × Int) × (Int × Int × Int) × Int)) × (List ((Int × Int × Int) × (Int × Int × Int) × (Int × Int × Int) × Int)) × (List (Int × Int × Int × Int)) × Int × (List (Int × Int × Int)) × ((Int × Int × Int) × (Int × Int × Int) × (Int × Int × Int) × Int × Int × Int) × Int × Int)) : Option (Int) := (merge_Mats_1.t x).run
noncomputable def merge_Mats_1.q : List AV → T AV := entry [TMatD, (.ptr TScn)] (outR [TI]) fun x => .opt (merge_Mats_1 x) .ret
theorem merge_Mats_1.ok : FnOK Tryd.prog 39 merge_Mats_1.q :=
  entry_call (ps := [TMatD, (.ptr TScn)]) (rs := [TI]) (F := ({ quiet := (ext Xs 40 IndexM.q), deep := noDeep } : Fns)) (D := D0) (S := tabS []) (t := merge_Mats_1.t) mixed (quiet_ext Xok IndexM.ok) (deep_none _) Tryd.func39 (by kernel_rfl) (sok_fn trivial) (by kernel_rfl) (fun x => by kernel_rfl)
end Go.Proofs.Pen

namespace Go.Proofs.Pen
open Go Go.Proofs
def merge_Uses.L0 : List (Nat × Lay) := [(1, .val TI), (5, .val TI), (9, .val (.sl TTriD)), (10, .val TI), (11, .val TI)]
noncomputable def merge_Uses.t0 (x : Int × Int × (List ((Int × Int × Int) × (Int × Int × Int) × (Int × Int × Int) × Int)) × Int × Int × Unit) : T (Ex × Int × Int × (List ((Int × Int × Int) × (Int × Int × Int) × (Int × Int × Int) × Int)) × Int × Int × Unit) := T.ite (decide (x.2.2.2.2.1 < x.2.2.2.1)) (T.opt (lget x.2.2.1 x.2.2.2.2.1) fun y => T.ite (y.2.2.2 == x.1) (T.ret (Ex.normal, x.1, W (x.2.1 + (1 : Int)), x.2.2.1, x.2.2.2.1, W (x.2.2.2.2.1 + (1 : Int)), ())) (T.ret (Ex.normal, x.1, x.2.1, x.2.2.1, x.2.2.2.1, W (x.2.2.2.2.1 + (1 : Int)), ()))) (T.ret (Ex.exit (0 : Nat), x.1, x.2.1, x.2.2.1, x.2.2.2.1, x.2.2.2.2.1, ()))
noncomputable def merge_Uses.l0 (x : Int × Int × (List ((Int × Int × Int) × (Int × Int × Int) × (Int × Int × Int) × Int)) × Int × Int × Unit) : Option (Ex × Int × Int × (List ((Int × Int × Int) × (Int × Int × Int) × (Int × Int × Int) × Int)) × Int × Int × Unit) := (iterT merge_Uses.t0 rounds x).run
theorem merge_Uses.k0 : bodies 0 (lp Tryd.f19 []) = [.loop (loopIn 0 (lp Tryd.f19 []))] ∧ WP Tryd.prog 0 (.block 0 (.loop (loopIn 0 (lp Tryd.f19 [])))) (loopS merge_Uses.L0 23 0 [.exit 0] merge_Uses.l0) :=
  loop_tree (L := merge_Uses.L0) (F := ({ quiet := Xs, deep := noDeep } : Fns)) (D := D0) (tab := []) (t := merge_Uses.t0) mixed Xok (deep_none _) (fun _ => rfl) (by kernel_rfl) (by kernel_rfl) trivial (fun x => by kernel_rfl)
noncomputable def merge_Uses.t (x : ((List ((Int × Int × Int) × (Int × Int × Int) × Int)) × (List ((Int × Int × Int) × (Int × Int × Int) × (Int × Int × Int) × Int)) × (List (Int × Int × Int × Int)) × Int × (List (Int × Int × Int)) × ((Int × Int × Int) × (Int × Int × Int) × (Int × Int × Int) × Int × Int × Int) × Int × Int) × Int) : T (Int) := T.opt (merge_Uses.l0 (x.2, (0 : Int), x.1.2.1, (↑(List.length x.1.2.1) : Int), (0 : Int), ())) fun y => T.ite (exEq y.1 (Ex.exit (0 : Nat))) (T.ret y.2.2.1) T.fail
noncomputable def merge_Uses (x : ((List ((Int × Int × Int) × (Int × Int × Int) × Int)) × (List ((Int × Int × Int) × (Int × Int × Int) × (Int × Int × Int) × Int)) × (List (Int × Int × Int × Int)) × Int × (List (Int × Int × Int)) × ((Int × Int × Int) × (Int × Int × Int) × (Int × Int × Int) × Int × Int × Int) × Int × Int) × Int) : Option (Int) := (merge_Uses.t x).run
noncomputable def merge_Uses.q : List AV → T AV := entry [TScn, TI] (outR [TI]) fun x => .opt (merge_Uses x) .ret
theorem merge_Uses.ok : FnOK Tryd.prog 19 merge_Uses.q :=
  entry_call (ps := [TScn, TI]) (rs := [TI]) (F := ({ quiet := Xs, deep := noDeep } : Fns)) (D := D0) (S := tabS [(0, loopS merge_Uses.L0 23 0 [.exit 0] merge_Uses.l0)]) (t := merge_Uses.t) mixed Xok (deep_none _) Tryd.func19 (by kernel_rfl) (sok_fn ⟨merge_Uses.k0, trivial⟩) (by kernel_rfl) (fun x => by kernel_rfl)
end Go.Proofs.Pen

namespace Go.Proofs.Pen
open Go Go.Proofs
noncomputable def merge_Mats.deeps : Deeps := { D := [28, 30, 49, 50, 51], C := [], frz := false, S := fun _ _ => noS }
theorem merge_Mats.deepsOk : LoopsOK Tryd.prog merge_Mats.deeps.S := (loops_none _)
def merge_Mats.L0 : List (Nat × Lay) := [(1, .box TScn), (2, .box TScn), (5, .obx [.own TMatD, .own TTriD, .own TLitD, .dat TI, .own TP, .dat TCam, .dat TI, .dat TI]), (6, .clo 39 [2]), (22, .val (.sl TMatD)), (23, .val TI), (24, .val TI)]
noncomputable def merge_Mats.t0 (x : ((List ((Int × Int × Int) × (Int × Int × Int) × Int)) × (List ((Int × Int × Int) × (Int × Int × Int) × (Int × Int × Int) × Int)) × (List (Int × Int × Int × Int)) × Int × (List (Int × Int × Int)) × ((Int × Int × Int) × (Int × Int × Int) × (Int × Int × Int) × Int × Int × Int) × Int × Int) × ((List ((Int × Int × Int) × (Int × Int × Int) × Int)) × (List ((Int × Int × Int) × (Int × Int × Int) × (Int × Int × Int) × Int)) × (List (Int × Int × Int × Int)) × Int × (List (Int × Int × Int)) × ((Int × Int × Int) × (Int × Int × Int) × (Int × Int × Int) × Int × Int × Int) × Int × Int) × (List ((Int × Int × Int) × (Int × Int × Int) × Int) × List ((Int × Int × Int) × (Int × Int × Int) × (Int × Int × Int) × Int) × List (Int × Int × Int × Int) × Int × List (Int × Int × Int) × ((Int × Int × Int) × (Int × Int × Int) × (Int × Int × Int) × Int × Int × Int) × Int × Int × Unit) × (List ((Int × Int × Int) × (Int × Int × Int) × Int)) × Int × Int × Unit) : T (Ex × ((List ((Int × Int × Int) × (Int × Int × Int) × Int)) × (List ((Int × Int × Int) × (Int × Int × Int) × (Int × Int × Int) × Int)) × (List (Int × Int × Int × Int)) × Int × (List (Int × Int × Int)) × ((Int × Int × Int) × (Int × Int × Int) × (Int × Int × Int) × Int × Int × Int) × Int × Int) × ((List ((Int × Int × Int) × (Int × Int × Int) × Int)) × (List ((Int × Int × Int) × (Int × Int × Int) × (Int × Int × Int) × Int)) × (List (Int × Int × Int × Int)) × Int × (List (Int × Int × Int)) × ((Int × Int × Int) × (Int × Int × Int) × (Int × Int × Int) × Int × Int × Int) × Int × Int) × (List ((Int × Int × Int) × (Int × Int × Int) × Int) × List ((Int × Int × Int) × (Int × Int × Int) × (Int × Int × Int) × Int) × List (Int × Int × Int × Int) × Int × List (Int × Int × Int) × ((Int × Int × Int) × (Int × Int × Int) × (Int × Int × Int) × Int × Int × Int) × Int × Int × Unit) × (List ((Int × Int × Int) × (Int × Int × Int) × Int)) × Int × Int × Unit) := T.ite (decide (x.2.2.2.2.2.1 < x.2.2.2.2.1)) (T.opt (lget x.2.2.2.1 x.2.2.2.2.2.1) fun y => T.opt (merge_Uses (x.1, x.2.2.2.2.2.1)) fun y_1 => T.ite (decide (y_1 > (0 : Int))) (T.opt (merge_Mats_1 (y, List.take x.2.2.1.1.length x.2.2.1.1, List.take x.2.2.1.2.1.length x.2.2.1.2.1, List.take x.2.2.1.2.2.1.length x.2.2.1.2.2.1, x.2.2.1.2.2.2.1, List.take x.2.2.1.2.2.2.2.1.length x.2.2.1.2.2.2.2.1, x.2.2.1.2.2.2.2.2.1, x.2.2.1.2.2.2.2.2.2.1, x.2.2.1.2.2.2.2.2.2.2.1)) fun y_2 => T.ite (decide (y_2 < (0 : Int))) (T.ite (decide ((x.2.2.1.1.length + (1 : Nat)) * nat_lit 56 ≤ most)) (T.ret (Ex.normal, x.1, x.2.1, (List.take (x.2.2.1.1.length + (1 : Nat)) (List.take x.2.2.1.1.length x.2.2.1.1 ++ [y]), List.take x.2.2.1.2.1.length x.2.2.1.2.1, List.take x.2.2.1.2.2.1.length x.2.2.1.2.2.1, x.2.2.1.2.2.2.1, List.take x.2.2.1.2.2.2.2.1.length x.2.2.1.2.2.2.2.1, x.2.2.1.2.2.2.2.2.1, x.2.2.1.2.2.2.2.2.2.1, x.2.2.1.2.2.2.2.2.2.2.1, ()), x.2.2.2.1, x.2.2.2.2.1, W (x.2.2.2.2.2.1 + (1 : Int)), ())) T.fail) (T.ret (Ex.normal, x.1, x.2.1, (List.take x.2.2.1.1.length x.2.2.1.1, List.take x.2.2.1.2.1.length x.2.2.1.2.1, List.take x.2.2.1.2.2.1.length x.2.2.1.2.2.1, x.2.2.1.2.2.2.1, List.take x.2.2.1.2.2.2.2.1.length x.2.2.1.2.2.2.2.1, x.2.2.1.2.2.2.2.2.1, x.2.2.1.2.2.2.2.2.2.1, x.2.2.1.2.2.2.2.2.2.2.1, ()), x.2.2.2.1, x.2.2.2.2.1, W (x.2.2.2.2.2.1 + (1 : Int)), ()))) (T.ret (Ex.normal, x.1, x.2.1, (List.take x.2.2.1.1.length x.2.2.1.1, List.take x.2.2.1.2.1.length x.2.2.1.2.1, List.take x.2.2.1.2.2.1.length x.2.2.1.2.2.1, x.2.2.1.2.2.2.1, List.take x.2.2.1.2.2.2.2.1.length x.2.2.1.2.2.2.2.1, x.2.2.1.2.2.2.2.2.1, x.2.2.1.2.2.2.2.2.2.1, x.2.2.1.2.2.2.2.2.2.2.1, ()), x.2.2.2.1, x.2.2.2.2.1, W (x.2.2.2.2.2.1 + (1 : Int)), ()))) (T.ret (Ex.exit (0 : Nat), x.1, x.2.1, (List.take x.2.2.1.1.length x.2.2.1.1, List.take x.2.2.1.2.1.length x.2.2.1.2.1, List.take x.2.2.1.2.2.1.length x.2.2.1.2.2.1, x.2.2.1.2.2.2.1, List.take x.2.2.1.2.2.2.2.1.length x.2.2.1.2.2.2.2.1, x.2.2.1.2.2.2.2.2.1, x.2.2.1.2.2.2.2.2.2.1, x.2.2.1.2.2.2.2.2.2.2.1, ()), x.2.2.2.1, x.2.2.2.2.1, x.2.2.2.2.2.1, ()))
noncomputable def merge_Mats.l0 (x : ((List ((Int × Int × Int) × (Int × Int × Int) × Int)) × (List ((Int × Int × Int) × (Int × Int × Int) × (Int × Int × Int) × Int)) × (List (Int × Int × Int × Int)) × Int × (List (Int × Int × Int)) × ((Int × Int × Int) × (Int × Int × Int) × (Int × Int × Int) × Int × Int × Int) × Int × Int) × ((List ((Int × Int × Int) × (Int × Int × Int) × Int)) × (List ((Int × Int × Int) × (Int × Int × Int) × (Int × Int × Int) × Int)) × (List (Int × Int × Int × Int)) × Int × (List (Int × Int × Int)) × ((Int × Int × Int) × (Int × Int × Int) × (Int × Int × Int) × Int × Int × Int) × Int × Int) × (List ((Int × Int × Int) × (Int × Int × Int) × Int) × List ((Int × Int × Int) × (Int × Int × Int) × (Int × Int × Int) × Int) × List (Int × Int × Int × Int) × Int × List (Int × Int × Int) × ((Int × Int × Int) × (Int × Int × Int) × (Int × Int × Int) × Int × Int × Int) × Int × Int × Unit) × (List ((Int × Int × Int) × (Int × Int × Int) × Int)) × Int × Int × Unit) : Option (Ex × ((List ((Int × Int × Int) × (Int × Int × Int) × Int)) × (List ((Int × Int × Int) × (Int × Int × Int) × (Int × Int × Int) × Int)) × (List (Int × Int × Int × Int)) × Int × (List (Int × Int × Int)) × ((Int × Int × Int) × (Int × Int × Int) × (Int × Int × Int) × Int × Int × Int) × Int × Int) × ((List ((Int × Int × Int) × (Int × Int × Int) × Int)) × (List ((Int × Int × Int) × (Int × Int × Int) × (Int × Int × Int) × Int)) × (List (Int × Int × Int × Int)) × Int × (List (Int × Int × Int)) × ((Int × Int × Int) × (Int × Int × Int) × (Int × Int × Int) × Int × Int × Int) × Int × Int) × (List ((Int × Int × Int) × (Int × Int × Int) × Int) × List ((Int × Int × Int) × (Int × Int × Int) × (Int × Int × Int) × Int) × List (Int × Int × Int × Int) × Int × List (Int × Int × Int) × ((Int × Int × Int) × (Int × Int × Int) × (Int × Int × Int) × Int × Int × Int) × Int × Int × Unit) × (List ((Int × Int × Int) × (Int × Int × Int) × Int)) × Int × Int × Unit) := (iterT merge_Mats.t0 rounds x).run
theorem merge_Mats.k0 : bodies 0 (lp Tryd.f16 []) = [.loop (loopIn 0 (lp Tryd.f16 []))] ∧ WP Tryd.prog 0 (.block 0 (.loop (loopIn 0 (lp Tryd.f16 [])))) (loopS merge_Mats.L0 69 0 [.exit 0] merge_Mats.l0) :=
  loop_tree (L := merge_Mats.L0) (F := (dpT Tryd.prog (ext (ext (ext (ext (ext Xs 26 scene_Check.q) 39 merge_Mats_1.q) 19 merge_Uses.q) 68 scene_lights_1.q) 72 scene_within_1.q) merge_Mats.deeps tb 100 8)) (D := (inL merge_Mats.deeps.D)) (tab := []) (t := merge_Mats.t0) mixed (dpT_ok mixed (quiet_ext (quiet_ext (quiet_ext (quiet_ext (quiet_ext Xok scene_Check.ok) merge_Mats_1.ok) merge_Uses.ok) scene_lights_1.ok) scene_within_1.ok) merge_Mats.deepsOk tbOk 100 8).1 (dpT_ok mixed (quiet_ext (quiet_ext (quiet_ext (quiet_ext (quiet_ext Xok scene_Check.ok) merge_Mats_1.ok) merge_Uses.ok) scene_lights_1.ok) scene_within_1.ok) merge_Mats.deepsOk tbOk 100 8).2 (fun _ => rfl) (by kernel_rfl) (by kernel_rfl) trivial (fun x => by kernel_rfl)
def merge_Mats.L2 : List (Nat × Lay) := [(1, .box TScn), (2, .box TScn), (5, .obx [.own TMatD, .own TTriD, .own TLitD, .dat TI, .own TP, .dat TCam, .dat TI, .dat TI]), (6, .clo 39 [2]), (47, .al 4 TTriD), (48, .val TI), (49, .val TI)]
noncomputable def merge_Mats.t2 (x : ((List ((Int × Int × Int) × (Int × Int × Int) × Int)) × (List ((Int × Int × Int) × (Int × Int × Int) × (Int × Int × Int) × Int)) × (List (Int × Int × Int × Int)) × Int × (List (Int × Int × Int)) × ((Int × Int × Int) × (Int × Int × Int) × (Int × Int × Int) × Int × Int × Int) × Int × Int) × ((List ((Int × Int × Int) × (Int × Int × Int) × Int)) × (List ((Int × Int × Int) × (Int × Int × Int) × (Int × Int × Int) × Int)) × (List (Int × Int × Int × Int)) × Int × (List (Int × Int × Int)) × ((Int × Int × Int) × (Int × Int × Int) × (Int × Int × Int) × Int × Int × Int) × Int × Int) × (List ((Int × Int × Int) × (Int × Int × Int) × Int) × List ((Int × Int × Int) × (Int × Int × Int) × (Int × Int × Int) × Int) × List (Int × Int × Int × Int) × Int × List (Int × Int × Int) × ((Int × Int × Int) × (Int × Int × Int) × (Int × Int × Int) × Int × Int × Int) × Int × Int × Unit) × Nat × Int × Int × Unit) : T (Ex × ((List ((Int × Int × Int) × (Int × Int × Int) × Int)) × (List ((Int × Int × Int) × (Int × Int × Int) × (Int × Int × Int) × Int)) × (List (Int × Int × Int × Int)) × Int × (List (Int × Int × Int)) × ((Int × Int × Int) × (Int × Int × Int) × (Int × Int × Int) × Int × Int × Int) × Int × Int) × ((List ((Int × Int × Int) × (Int × Int × Int) × Int)) × (List ((Int × Int × Int) × (Int × Int × Int) × (Int × Int × Int) × Int)) × (List (Int × Int × Int × Int)) × Int × (List (Int × Int × Int)) × ((Int × Int × Int) × (Int × Int × Int) × (Int × Int × Int) × Int × Int × Int) × Int × Int) × (List ((Int × Int × Int) × (Int × Int × Int) × Int) × List ((Int × Int × Int) × (Int × Int × Int) × (Int × Int × Int) × Int) × List (Int × Int × Int × Int) × Int × List (Int × Int × Int) × ((Int × Int × Int) × (Int × Int × Int) × (Int × Int × Int) × Int × Int × Int) × Int × Int × Unit) × Nat × Int × Int × Unit) := T.ite (decide (x.2.2.2.2.2.1 < x.2.2.2.2.1)) (T.ite (decide ((0 : Int) ≤ x.2.2.2.2.2.1) && decide (x.2.2.2.2.2.1 < (↑x.2.2.2.1 : Int))) (T.opt x.2.2.1.2.1[(0 : Nat) + Int.toNat x.2.2.2.2.2.1]? fun y => T.opt (lget x.1.1 y.2.2.2) fun y => T.opt (merge_Mats_1 (y, List.take x.2.2.1.1.length x.2.2.1.1, List.take x.2.2.1.2.1.length x.2.2.1.2.1, List.take x.2.2.1.2.2.1.length x.2.2.1.2.2.1, x.2.2.1.2.2.2.1, List.take x.2.2.1.2.2.2.2.1.length x.2.2.1.2.2.2.2.1, x.2.2.1.2.2.2.2.2.1, x.2.2.1.2.2.2.2.2.2.1, x.2.2.1.2.2.2.2.2.2.2.1)) fun y => T.ite (decide ((0 : Int) ≤ x.2.2.2.2.2.1) && decide (x.2.2.2.2.2.1 < (↑x.2.2.1.2.1.length : Int))) (T.opt x.2.2.1.2.1[(0 : Nat) + Int.toNat x.2.2.2.2.2.1]? fun y_1 => T.ite (alD (encB merge_Mats.L2 (x.1, x.2.1, (List.take x.2.2.1.1.length x.2.2.1.1, List.take x.2.2.1.2.1.length (x.2.2.1.2.1.set ((0 : Nat) + Int.toNat x.2.2.2.2.2.1) (y_1.fst, y_1.snd.fst, y_1.snd.snd.fst, y)), List.take x.2.2.1.2.2.1.length x.2.2.1.2.2.1, x.2.2.1.2.2.2.1, List.take x.2.2.1.2.2.2.2.1.length x.2.2.1.2.2.2.2.1, x.2.2.1.2.2.2.2.2.1, x.2.2.1.2.2.2.2.2.2.1, x.2.2.1.2.2.2.2.2.2.2.1, ()), x.2.2.2.1, x.2.2.2.2.1, W (x.2.2.2.2.2.1 + (1 : Int)), ())) merge_Mats.L2 (x.1, x.2.1, (List.take x.2.2.1.1.length x.2.2.1.1, List.take x.2.2.1.2.1.length (x.2.2.1.2.1.set ((0 : Nat) + Int.toNat x.2.2.2.2.2.1) (y_1.fst, y_1.snd.fst, y_1.snd.snd.fst, y)), List.take x.2.2.1.2.2.1.length x.2.2.1.2.2.1, x.2.2.1.2.2.2.1, List.take x.2.2.1.2.2.2.2.1.length x.2.2.1.2.2.2.2.1, x.2.2.1.2.2.2.2.2.1, x.2.2.1.2.2.2.2.2.2.1, x.2.2.1.2.2.2.2.2.2.2.1, ()), x.2.2.2.1, x.2.2.2.2.1, W (x.2.2.2.2.2.1 + (1 : Int)), ())) (T.ret (Ex.normal, x.1, x.2.1, (List.take x.2.2.1.1.length x.2.2.1.1, List.take x.2.2.1.2.1.length (x.2.2.1.2.1.set ((0 : Nat) + Int.toNat x.2.2.2.2.2.1) (y_1.fst, y_1.snd.fst, y_1.snd.snd.fst, y)), List.take x.2.2.1.2.2.1.length x.2.2.1.2.2.1, x.2.2.1.2.2.2.1, List.take x.2.2.1.2.2.2.2.1.length x.2.2.1.2.2.2.2.1, x.2.2.1.2.2.2.2.2.1, x.2.2.1.2.2.2.2.2.2.1, x.2.2.1.2.2.2.2.2.2.2.1, ()), x.2.2.2.1, x.2.2.2.2.1, W (x.2.2.2.2.2.1 + (1 : Int)), ())) T.fail) T.fail) T.fail) (T.ite (alD (encB merge_Mats.L2 (x.1, x.2.1, (List.take x.2.2.1.1.length x.2.2.1.1, List.take x.2.2.1.2.1.length x.2.2.1.2.1, List.take x.2.2.1.2.2.1.length x.2.2.1.2.2.1, x.2.2.1.2.2.2.1, List.take x.2.2.1.2.2.2.2.1.length x.2.2.1.2.2.2.2.1, x.2.2.1.2.2.2.2.2.1, x.2.2.1.2.2.2.2.2.2.1, x.2.2.1.2.2.2.2.2.2.2.1, ()), x.2.2.2.1, x.2.2.2.2.1, x.2.2.2.2.2.1, ())) merge_Mats.L2 (x.1, x.2.1, (List.take x.2.2.1.1.length x.2.2.1.1, List.take x.2.2.1.2.1.length x.2.2.1.2.1, List.take x.2.2.1.2.2.1.length x.2.2.1.2.2.1, x.2.2.1.2.2.2.1, List.take x.2.2.1.2.2.2.2.1.length x.2.2.1.2.2.2.2.1, x.2.2.1.2.2.2.2.2.1, x.2.2.1.2.2.2.2.2.2.1, x.2.2.1.2.2.2.2.2.2.2.1, ()), x.2.2.2.1, x.2.2.2.2.1, x.2.2.2.2.2.1, ())) (T.ret (Ex.exit (2 : Nat), x.1, x.2.1, (List.take x.2.2.1.1.length x.2.2.1.1, List.take x.2.2.1.2.1.length x.2.2.1.2.1, List.take x.2.2.1.2.2.1.length x.2.2.1.2.2.1, x.2.2.1.2.2.2.1, List.take x.2.2.1.2.2.2.2.1.length x.2.2.1.2.2.2.2.1, x.2.2.1.2.2.2.2.2.1, x.2.2.1.2.2.2.2.2.2.1, x.2.2.1.2.2.2.2.2.2.2.1, ()), x.2.2.2.1, x.2.2.2.2.1, x.2.2.2.2.2.1, ())) T.fail)
noncomputable def merge_Mats.l2 (x : ((List ((Int × Int × Int) × (Int × Int × Int) × Int)) × (List ((Int × Int × Int) × (Int × Int × Int) × (Int × Int × Int) × Int)) × (List (Int × Int × Int × Int)) × Int × (List (Int × Int × Int)) × ((Int × Int × Int) × (Int × Int × Int) × (Int × Int × Int) × Int × Int × Int) × Int × Int) × ((List ((Int × Int × Int) × (Int × Int × Int) × Int)) × (List ((Int × Int × Int) × (Int × Int × Int) × (Int × Int × Int) × Int)) × (List (Int × Int × Int × Int)) × Int × (List (Int × Int × Int)) × ((Int × Int × Int) × (Int × Int × Int) × (Int × Int × Int) × Int × Int × Int) × Int × Int) × (List ((Int × Int × Int) × (Int × Int × Int) × Int) × List ((Int × Int × Int) × (Int × Int × Int) × (Int × Int × Int) × Int) × List (Int × Int × Int × Int) × Int × List (Int × Int × Int) × ((Int × Int × Int) × (Int × Int × Int) × (Int × Int × Int) × Int × Int × Int) × Int × Int × Unit) × Nat × Int × Int × Unit) : Option (Ex × ((List ((Int × Int × Int) × (Int × Int × Int) × Int)) × (List ((Int × Int × Int) × (Int × Int × Int) × (Int × Int × Int) × Int)) × (List (Int × Int × Int × Int)) × Int × (List (Int × Int × Int)) × ((Int × Int × Int) × (Int × Int × Int) × (Int × Int × Int) × Int × Int × Int) × Int × Int) × ((List ((Int × Int × Int) × (Int × Int × Int) × Int)) × (List ((Int × Int × Int) × (Int × Int × Int) × (Int × Int × Int) × Int)) × (List (Int × Int × Int × Int)) × Int × (List (Int × Int × Int)) × ((Int × Int × Int) × (Int × Int × Int) × (Int × Int × Int) × Int × Int × Int) × Int × Int) × (List ((Int × Int × Int) × (Int × Int × Int) × Int) × List ((Int × Int × Int) × (Int × Int × Int) × (Int × Int × Int) × Int) × List (Int × Int × Int × Int) × Int × List (Int × Int × Int) × ((Int × Int × Int) × (Int × Int × Int) × (Int × Int × Int) × Int × Int × Int) × Int × Int × Unit) × Nat × Int × Int × Unit) := (iterT merge_Mats.t2 rounds x).run
theorem merge_Mats.k2 : bodies 2 (lp Tryd.f16 []) = [.loop (loopIn 2 (lp Tryd.f16 []))] ∧ WP Tryd.prog 0 (.block 2 (.loop (loopIn 2 (lp Tryd.f16 [])))) (loopS merge_Mats.L2 69 2 [.exit 2] merge_Mats.l2) :=
  loop_tree (L := merge_Mats.L2) (F := (dpT Tryd.prog (ext (ext (ext (ext (ext Xs 26 scene_Check.q) 39 merge_Mats_1.q) 19 merge_Uses.q) 68 scene_lights_1.q) 72 scene_within_1.q) merge_Mats.deeps tb 100 8)) (D := (inL merge_Mats.deeps.D)) (tab := []) (t := merge_Mats.t2) mixed (dpT_ok mixed (quiet_ext (quiet_ext (quiet_ext (quiet_ext (quiet_ext Xok scene_Check.ok) merge_Mats_1.ok) merge_Uses.ok) scene_lights_1.ok) scene_within_1.ok) merge_Mats.deepsOk tbOk 100 8).1 (dpT_ok mixed (quiet_ext (quiet_ext (quiet_ext (quiet_ext (quiet_ext Xok scene_Check.ok) merge_Mats_1.ok) merge_Uses.ok) scene_lights_1.ok) scene_within_1.ok) merge_Mats.deepsOk tbOk 100 8).2 (fun _ => rfl) (by kernel_rfl) (by kernel_rfl) trivial (fun x => by kernel_rfl)
noncomputable def merge_Mats.t (x : ((List ((Int × Int × Int) × (Int × Int × Int) × Int)) × (List ((Int × Int × Int) × (Int × Int × Int) × (Int × Int × Int) × Int)) × (List (Int × Int × Int × Int)) × Int × (List (Int × Int × Int)) × ((Int × Int × Int) × (Int × Int × Int) × (Int × Int × Int) × Int × Int × Int) × Int × Int)) : T (((List ((Int × Int × Int) × (Int × Int × Int) × Int)) × (List ((Int × Int × Int) × (Int × Int × Int) × (Int × Int × Int) × Int)) × (List (Int × Int × Int × Int)) × Int × (List (Int × Int × Int)) × ((Int × Int × Int) × (Int × Int × Int) × (Int × Int × Int) × Int × Int × Int) × Int × Int) × ErrD) := T.opt (scene_Check x) fun y => T.ite (!y.isNil) (T.ret (([], [], [], (0 : Int), [], (((0 : Int), (0 : Int), (0 : Int)), ((0 : Int), (0 : Int), (0 : Int)), ((0 : Int), (0 : Int), (0 : Int)), (0 : Int), (0 : Int), (0 : Int)), (0 : Int), (0 : Int)), y)) (T.ite (decide (List.length x.1 * (56 : Nat) ≤ most)) (T.ite (decide (List.length x.2.1 * (80 : Nat) ≤ most)) (T.ite (decide (List.length x.2.2.1 * (32 : Nat) ≤ most)) (T.ite (decide (List.length x.2.2.2.2.1 * (24 : Nat) ≤ most)) (T.opt (merge_Mats.l0 (x, ([], [], [], (0 : Int), [], (((0 : Int), (0 : Int), (0 : Int)), ((0 : Int), (0 : Int), (0 : Int)), ((0 : Int), (0 : Int), (0 : Int)), (0 : Int), (0 : Int), (0 : Int)), (0 : Int), (0 : Int)), ([], List.take (List.length x.2.1) x.2.1, List.take (List.length x.2.2.1) x.2.2.1, x.2.2.2.1, List.take (List.length x.2.2.2.2.1) x.2.2.2.2.1, x.2.2.2.2.2.1, x.2.2.2.2.2.2.1, x.2.2.2.2.2.2.2, ()), x.1, (↑(List.length x.1) : Int), (0 : Int), ())) fun y => T.ite (exEq y.1 (Ex.exit (0 : Nat))) (T.ite (alD (encB merge_Mats.L2 (y.2.1, y.2.2.1, (List.take y.2.2.2.1.1.length y.2.2.2.1.1, List.take y.2.2.2.1.2.1.length y.2.2.2.1.2.1, List.take y.2.2.2.1.2.2.1.length y.2.2.2.1.2.2.1, y.2.2.2.1.2.2.2.1, List.take y.2.2.2.1.2.2.2.2.1.length y.2.2.2.1.2.2.2.2.1, y.2.2.2.1.2.2.2.2.2.1, y.2.2.2.1.2.2.2.2.2.2.1, y.2.2.2.1.2.2.2.2.2.2.2.1, ()), y.2.2.2.1.2.1.length, (↑y.2.2.2.1.2.1.length : Int), (0 : Int), ())) merge_Mats.L2 (y.2.1, y.2.2.1, (List.take y.2.2.2.1.1.length y.2.2.2.1.1, List.take y.2.2.2.1.2.1.length y.2.2.2.1.2.1, List.take y.2.2.2.1.2.2.1.length y.2.2.2.1.2.2.1, y.2.2.2.1.2.2.2.1, List.take y.2.2.2.1.2.2.2.2.1.length y.2.2.2.1.2.2.2.2.1, y.2.2.2.1.2.2.2.2.2.1, y.2.2.2.1.2.2.2.2.2.2.1, y.2.2.2.1.2.2.2.2.2.2.2.1, ()), y.2.2.2.1.2.1.length, (↑y.2.2.2.1.2.1.length : Int), (0 : Int), ())) (T.opt (merge_Mats.l2 (y.2.1, y.2.2.1, (List.take y.2.2.2.1.1.length y.2.2.2.1.1, List.take y.2.2.2.1.2.1.length y.2.2.2.1.2.1, List.take y.2.2.2.1.2.2.1.length y.2.2.2.1.2.2.1, y.2.2.2.1.2.2.2.1, List.take y.2.2.2.1.2.2.2.2.1.length y.2.2.2.1.2.2.2.2.1, y.2.2.2.1.2.2.2.2.2.1, y.2.2.2.1.2.2.2.2.2.2.1, y.2.2.2.1.2.2.2.2.2.2.2.1, ()), y.2.2.2.1.2.1.length, (↑y.2.2.2.1.2.1.length : Int), (0 : Int), ())) fun y => T.ite (exEq y.1 (Ex.exit (2 : Nat))) (T.ret ((List.take y.2.2.2.1.1.length y.2.2.2.1.1, List.take y.2.2.2.1.2.1.length y.2.2.2.1.2.1, List.take y.2.2.2.1.2.2.1.length y.2.2.2.1.2.2.1, y.2.2.2.1.2.2.2.1, List.take y.2.2.2.1.2.2.2.2.1.length y.2.2.2.1.2.2.2.2.1, y.2.2.2.1.2.2.2.2.2.1, y.2.2.2.1.2.2.2.2.2.2.1, y.2.2.2.1.2.2.2.2.2.2.2.1), ErrD.nil)) T.fail) T.fail) T.fail) T.fail) T.fail) T.fail) T.fail)
noncomputable def merge_Mats (x : ((List ((Int × Int × Int) × (Int × Int × Int) × Int)) × (List ((Int × Int × Int) × (Int × Int × Int) × (Int × Int × Int) × Int)) × (List (Int × Int × Int × Int)) × Int × (List (Int × Int × Int)) × ((Int × Int × Int) × (Int × Int × Int) × (Int × Int × Int) × Int × Int × Int) × Int × Int)) : Option (((List ((Int × Int × Int) × (Int × Int × Int) × Int)) × (List ((Int × Int × Int) × (Int × Int × Int) × (Int × Int × Int) × Int)) × (List (Int × Int × Int × Int)) × Int × (List (Int × Int × Int)) × ((Int × Int × Int) × (Int × Int × Int) × (Int × Int × Int) × Int × Int × Int) × Int × Int) × ErrD) := (merge_Mats.t x).run
noncomputable def merge_Mats.q : List AV → T AV := entry [TScn] (outR [TScn, TE]) fun x => .opt (merge_Mats x) .ret
theorem merge_Mats.ok : FnOK Tryd.prog 16 merge_Mats.q :=
  entry_call (ps := [TScn]) (rs := [TScn, TE]) (F := (dpT Tryd.prog (ext (ext (ext (ext (ext Xs 26 scene_Check.q) 39 merge_Mats_1.q) 19 merge_Uses.q) 68 scene_lights_1.q) 72 scene_within_1.q) merge_Mats.deeps tb 100 8)) (D := (inL merge_Mats.deeps.D)) (S := tabS [(0, loopS merge_Mats.L0 69 0 [.exit 0] merge_Mats.l0), (2, loopS merge_Mats.L2 69 2 [.exit 2] merge_Mats.l2)]) (t := merge_Mats.t) mixed (dpT_ok mixed (quiet_ext (quiet_ext (quiet_ext (quiet_ext (quiet_ext Xok scene_Check.ok) merge_Mats_1.ok) merge_Uses.ok) scene_lights_1.ok) scene_within_1.ok) merge_Mats.deepsOk tbOk 100 8).1 (dpT_ok mixed (quiet_ext (quiet_ext (quiet_ext (quiet_ext (quiet_ext Xok scene_Check.ok) merge_Mats_1.ok) merge_Uses.ok) scene_lights_1.ok) scene_within_1.ok) merge_Mats.deepsOk tbOk 100 8).2 Tryd.func16 (by kernel_rfl) (sok_fn ⟨merge_Mats.k0, merge_Mats.k2, trivial⟩) (by kernel_rfl) (fun x => by kernel_rfl)
end Go.Proofs.Pen

namespace Go.Proofs.Pen
open Go Go.Proofs
def ref48_Uses.L0 : List (Nat × Lay) := [(1, .val TI), (2, .box TScn), (5, .val TI), (6, .val TI)]
noncomputable def ref48_Uses.t0 (x : Int × ((List ((Int × Int × Int) × (Int × Int × Int) × Int)) × (List ((Int × Int × Int) × (Int × Int × Int) × (Int × Int × Int) × Int)) × (List (Int × Int × Int × Int)) × Int × (List (Int × Int × Int)) × ((Int × Int × Int) × (Int × Int × Int) × (Int × Int × Int) × Int × Int × Int) × Int × Int) × Int × Int × Unit) : T (Ex × Int × ((List ((Int × Int × Int) × (Int × Int × Int) × Int)) × (List ((Int × Int × Int) × (Int × Int × Int) × (Int × Int × Int) × Int)) × (List (Int × Int × Int × Int)) × Int × (List (Int × Int × Int)) × ((Int × Int × Int) × (Int × Int × Int) × (Int × Int × Int) × Int × Int × Int) × Int × Int) × Int × Int × Unit) := T.ite (decide (x.2.2.2.1 < (↑(List.length x.2.1.2.1) : Int))) (T.opt (lget x.2.1.2.1 x.2.2.2.1) fun y => T.ite (y.2.2.2 == x.1) (T.ret (Ex.normal, x.1, x.2.1, W (x.2.2.1 + (1 : Int)), W (x.2.2.2.1 + (1 : Int)), ())) (T.ret (Ex.normal, x.1, x.2.1, x.2.2.1, W (x.2.2.2.1 + (1 : Int)), ()))) (T.ret (Ex.exit (0 : Nat), x.1, x.2.1, x.2.2.1, x.2.2.2.1, ()))
noncomputable def ref48_Uses.l0 (x : Int × ((List ((Int × Int × Int) × (Int × Int × Int) × Int)) × (List ((Int × Int × Int) × (Int × Int × Int) × (Int × Int × Int) × Int)) × (List (Int × Int × Int × Int)) × Int × (List (Int × Int × Int)) × ((Int × Int × Int) × (Int × Int × Int) × (Int × Int × Int) × Int × Int × Int) × Int × Int) × Int × Int × Unit) : Option (Ex × Int × ((List ((Int × Int × Int) × (Int × Int × Int) × Int)) × (List ((Int × Int × Int) × (Int × Int × Int) × (Int × Int × Int) × Int)) × (List (Int × Int × Int × Int)) × Int × (List (Int × Int × Int)) × ((Int × Int × Int) × (Int × Int × Int) × (Int × Int × Int) × Int × Int × Int) × Int × Int) × Int × Int × Unit) := (iterT ref48_Uses.t0 rounds x).run
theorem ref48_Uses.k0 : bodies 0 (lp Tryd.f18 []) = [.loop (loopIn 0 (lp Tryd.f18 []))] ∧ WP Tryd.prog 0 (.block 0 (.loop (loopIn 0 (lp Tryd.f18 [])))) (loopS ref48_Uses.L0 25 0 [.exit 0] ref48_Uses.l0) :=
  loop_tree (L := ref48_Uses.L0) (F := ({ quiet := Xs, deep := noDeep } : Fns)) (D := D0) (tab := []) (t := ref48_Uses.t0) mixed Xok (deep_none _) (fun _ => rfl) (by kernel_rfl) (by kernel_rfl) trivial (fun x => by kernel_rfl)
noncomputable def ref48_Uses.t (x : ((List ((Int × Int × Int) × (Int × Int × Int) × Int)) × (List ((Int × Int × Int) × (Int × Int × Int) × (Int × Int × Int) × Int)) × (List (Int × Int × Int × Int)) × Int × (List (Int × Int × Int)) × ((Int × Int × Int) × (Int × Int × Int) × (Int × Int × Int) × Int × Int × Int) × Int × Int) × Int) : T (Int) := T.opt (ref48_Uses.l0 (x.2, x.1, (0 : Int), (0 : Int), ())) fun y => T.ite (exEq y.1 (Ex.exit (0 : Nat))) (T.ret y.2.2.2.1) T.fail
noncomputable def ref48_Uses (x : ((List ((Int × Int × Int) × (Int × Int × Int) × Int)) × (List ((Int × Int × Int) × (Int × Int × Int) × (Int × Int × Int) × Int)) × (List (Int × Int × Int × Int)) × Int × (List (Int × Int × Int)) × ((Int × Int × Int) × (Int × Int × Int) × (Int × Int × Int) × Int × Int × Int) × Int × Int) × Int) : Option (Int) := (ref48_Uses.t x).run
noncomputable def ref48_Uses.q : List AV → T AV := entry [TScn, TI] (outR [TI]) fun x => .opt (ref48_Uses x) .ret
theorem ref48_Uses.ok : FnOK Tryd.prog 18 ref48_Uses.q :=
  entry_call (ps := [TScn, TI]) (rs := [TI]) (F := ({ quiet := Xs, deep := noDeep } : Fns)) (D := D0) (S := tabS [(0, loopS ref48_Uses.L0 25 0 [.exit 0] ref48_Uses.l0)]) (t := ref48_Uses.t) mixed Xok (deep_none _) Tryd.func18 (by kernel_rfl) (sok_fn ⟨ref48_Uses.k0, trivial⟩) (by kernel_rfl) (fun x => by kernel_rfl)
end Go.Proofs.Pen

namespace Go.Proofs.Pen
open Go Go.Proofs
noncomputable def merge_Dim_1.t (x : (Int × Int × Int) × Int × Int) : T ((Int × Int × Int)) := T.ite (x.2.2 == (0 : Int)) T.fail (T.ite (x.2.2 == (0 : Int)) T.fail (T.ite (x.2.2 == (0 : Int)) T.fail (T.ret (W ((W (x.1.1 * x.2.1)).tdiv x.2.2), W ((W (x.1.2.1 * x.2.1)).tdiv x.2.2), W ((W (x.1.2.2 * x.2.1)).tdiv x.2.2)))))
noncomputable def merge_Dim_1 (x : (Int × Int × Int) × Int × Int) : Option ((Int × Int × Int)) := (merge_Dim_1.t x).run
noncomputable def merge_Dim_1.q : List AV → T AV := entry [TP, (.ptr TI), (.ptr TI)] (outR [TP]) fun x => .opt (merge_Dim_1 x) .ret
theorem merge_Dim_1.ok : FnOK Tryd.prog 42 merge_Dim_1.q :=
  entry_call (ps := [TP, (.ptr TI), (.ptr TI)]) (rs := [TP]) (F := ({ quiet := Xs, deep := noDeep } : Fns)) (D := D0) (S := tabS []) (t := merge_Dim_1.t) mixed Xok (deep_none _) Tryd.func42 (by kernel_rfl) (sok_fn trivial) (by kernel_rfl) (fun x => by kernel_rfl)
end Go.Proofs.Pen

namespace Go.Proofs.Pen
open Go Go.Proofs
def law48_MergeMats.L0 : List (Nat × Lay) := [(1, .box TScn), (2, .val .bool), (3, .box TScn), (6, .val TI)]
noncomputable def law48_MergeMats.t0 (x : ((List ((Int × Int × Int) × (Int × Int × Int) × Int)) × (List ((Int × Int × Int) × (Int × Int × Int) × (Int × Int × Int) × Int)) × (List (Int × Int × Int × Int)) × Int × (List (Int × Int × Int)) × ((Int × Int × Int) × (Int × Int × Int) × (Int × Int × Int) × Int × Int × Int) × Int × Int) × Bool × ((List ((Int × Int × Int) × (Int × Int × Int) × Int)) × (List ((Int × Int × Int) × (Int × Int × Int) × (Int × Int × Int) × Int)) × (List (Int × Int × Int × Int)) × Int × (List (Int × Int × Int)) × ((Int × Int × Int) × (Int × Int × Int) × (Int × Int × Int) × Int × Int × Int) × Int × Int) × Int × Unit) : T (Ex × ((List ((Int × Int × Int) × (Int × Int × Int) × Int)) × (List ((Int × Int × Int) × (Int × Int × Int) × (Int × Int × Int) × Int)) × (List (Int × Int × Int × Int)) × Int × (List (Int × Int × Int)) × ((Int × Int × Int) × (Int × Int × Int) × (Int × Int × Int) × Int × Int × Int) × Int × Int) × Bool × ((List ((Int × Int × Int) × (Int × Int × Int) × Int)) × (List ((Int × Int × Int) × (Int × Int × Int) × (Int × Int × Int) × Int)) × (List (Int × Int × Int × Int)) × Int × (List (Int × Int × Int)) × ((Int × Int × Int) × (Int × Int × Int) × (Int × Int × Int) × Int × Int × Int) × Int × Int) × Int × Unit) := T.ite (decide (x.2.2.2.1 < (↑(List.length x.1.2.1) : Int))) (T.opt (ref48_Alike (x.1, x.2.2.2.1, x.2.2.1, x.2.2.2.1)) fun y => T.ite (!y) (T.ret (Ex.ret, x.1, false, x.2.2.1, x.2.2.2.1, ())) (T.ret (Ex.normal, x.1, x.2.1, x.2.2.1, W (x.2.2.2.1 + (1 : Int)), ()))) (T.ret (Ex.exit (0 : Nat), x.1, x.2.1, x.2.2.1, x.2.2.2.1, ()))
noncomputable def law48_MergeMats.l0 (x : ((List ((Int × Int × Int) × (Int × Int × Int) × Int)) × (List ((Int × Int × Int) × (Int × Int × Int) × (Int × Int × Int) × Int)) × (List (Int × Int × Int × Int)) × Int × (List (Int × Int × Int)) × ((Int × Int × Int) × (Int × Int × Int) × (Int × Int × Int) × Int × Int × Int) × Int × Int) × Bool × ((List ((Int × Int × Int) × (Int × Int × Int) × Int)) × (List ((Int × Int × Int) × (Int × Int × Int) × (Int × Int × Int) × Int)) × (List (Int × Int × Int × Int)) × Int × (List (Int × Int × Int)) × ((Int × Int × Int) × (Int × Int × Int) × (Int × Int × Int) × Int × Int × Int) × Int × Int) × Int × Unit) : Option (Ex × ((List ((Int × Int × Int) × (Int × Int × Int) × Int)) × (List ((Int × Int × Int) × (Int × Int × Int) × (Int × Int × Int) × Int)) × (List (Int × Int × Int × Int)) × Int × (List (Int × Int × Int)) × ((Int × Int × Int) × (Int × Int × Int) × (Int × Int × Int) × Int × Int × Int) × Int × Int) × Bool × ((List ((Int × Int × Int) × (Int × Int × Int) × Int)) × (List ((Int × Int × Int) × (Int × Int × Int) × (Int × Int × Int) × Int)) × (List (Int × Int × Int × Int)) × Int × (List (Int × Int × Int)) × ((Int × Int × Int) × (Int × Int × Int) × (Int × Int × Int) × Int × Int × Int) × Int × Int) × Int × Unit) := (iterT law48_MergeMats.t0 rounds x).run
theorem law48_MergeMats.k0 : bodies 0 (lp Tryd.f4 []) = [.loop (loopIn 0 (lp Tryd.f4 []))] ∧ WP Tryd.prog 0 (.block 0 (.loop (loopIn 0 (lp Tryd.f4 [])))) (loopS law48_MergeMats.L0 110 0 [.exit 0, .ret] law48_MergeMats.l0) :=
  loop_tree (L := law48_MergeMats.L0) (F := ({ quiet := (ext (ext (ext (ext (ext (ext (ext (ext (ext (ext (ext (ext (ext Xs 7 law22_Light.q) 8 law48_awake.q) 16 merge_Mats.q) 10 ref22_Check.q) 11 law48_wrong.q) 17 ref48_Alike.q) 18 ref48_Uses.q) 19 merge_Uses.q) 29 merge_Join_1.q) 39 merge_Mats_1.q) 42 merge_Dim_1.q) 68 scene_lights_1.q) 72 scene_within_1.q), deep := noDeep } : Fns)) (D := D0) (tab := []) (t := law48_MergeMats.t0) mixed (quiet_ext (quiet_ext (quiet_ext (quiet_ext (quiet_ext (quiet_ext (quiet_ext (quiet_ext (quiet_ext (quiet_ext (quiet_ext (quiet_ext (quiet_ext Xok law22_Light.ok) law48_awake.ok) merge_Mats.ok) ref22_Check.ok) law48_wrong.ok) ref48_Alike.ok) ref48_Uses.ok) merge_Uses.ok) merge_Join_1.ok) merge_Mats_1.ok) merge_Dim_1.ok) scene_lights_1.ok) scene_within_1.ok) (deep_none _) (fun _ => rfl) (by kernel_rfl) (by kernel_rfl) trivial (fun x => by kernel_rfl)
def law48_MergeMats.L4 : List (Nat × Lay) := [(1, .box TScn), (2, .val .bool), (3, .box TScn), (7, .val TI), (8, .val TI)]
noncomputable def law48_MergeMats.t4 (x : ((List ((Int × Int × Int) × (Int × Int × Int) × Int)) × (List ((Int × Int × Int) × (Int × Int × Int) × (Int × Int × Int) × Int)) × (List (Int × Int × Int × Int)) × Int × (List (Int × Int × Int)) × ((Int × Int × Int) × (Int × Int × Int) × (Int × Int × Int) × Int × Int × Int) × Int × Int) × Bool × ((List ((Int × Int × Int) × (Int × Int × Int) × Int)) × (List ((Int × Int × Int) × (Int × Int × Int) × (Int × Int × Int) × Int)) × (List (Int × Int × Int × Int)) × Int × (List (Int × Int × Int)) × ((Int × Int × Int) × (Int × Int × Int) × (Int × Int × Int) × Int × Int × Int) × Int × Int) × Int × Int × Unit) : T (Ex × ((List ((Int × Int × Int) × (Int × Int × Int) × Int)) × (List ((Int × Int × Int) × (Int × Int × Int) × (Int × Int × Int) × Int)) × (List (Int × Int × Int × Int)) × Int × (List (Int × Int × Int)) × ((Int × Int × Int) × (Int × Int × Int) × (Int × Int × Int) × Int × Int × Int) × Int × Int) × Bool × ((List ((Int × Int × Int) × (Int × Int × Int) × Int)) × (List ((Int × Int × Int) × (Int × Int × Int) × (Int × Int × Int) × Int)) × (List (Int × Int × Int × Int)) × Int × (List (Int × Int × Int)) × ((Int × Int × Int) × (Int × Int × Int) × (Int × Int × Int) × Int × Int × Int) × Int × Int) × Int × Int × Unit) := T.ite (decide (x.2.2.2.2.1 < x.2.2.2.1)) (T.opt (lget x.2.2.1.1 x.2.2.2.1) fun y => T.opt (lget x.2.2.1.1 x.2.2.2.2.1) fun y_1 => T.ite (y.1.1 == y_1.fst.fst && (y.1.2.1 == y_1.fst.snd.fst && y.1.2.2 == y_1.fst.snd.snd) && (y.2.1.1 == y_1.snd.fst.fst && (y.2.1.2.1 == y_1.snd.fst.snd.fst && y.2.1.2.2 == y_1.snd.fst.snd.snd) && y.2.2 == y_1.snd.snd)) (T.ret (Ex.ret, x.1, false, x.2.2.1, x.2.2.2.1, x.2.2.2.2.1, ())) (T.ret (Ex.normal, x.1, x.2.1, x.2.2.1, x.2.2.2.1, W (x.2.2.2.2.1 + (1 : Int)), ()))) (T.ret (Ex.exit (4 : Nat), x.1, x.2.1, x.2.2.1, x.2.2.2.1, x.2.2.2.2.1, ()))
noncomputable def law48_MergeMats.l4 (x : ((List ((Int × Int × Int) × (Int × Int × Int) × Int)) × (List ((Int × Int × Int) × (Int × Int × Int) × (Int × Int × Int) × Int)) × (List (Int × Int × Int × Int)) × Int × (List (Int × Int × Int)) × ((Int × Int × Int) × (Int × Int × Int) × (Int × Int × Int) × Int × Int × Int) × Int × Int) × Bool × ((List ((Int × Int × Int) × (Int × Int × Int) × Int)) × (List ((Int × Int × Int) × (Int × Int × Int) × (Int × Int × Int) × Int)) × (List (Int × Int × Int × Int)) × Int × (List (Int × Int × Int)) × ((Int × Int × Int) × (Int × Int × Int) × (Int × Int × Int) × Int × Int × Int) × Int × Int) × Int × Int × Unit) : Option (Ex × ((List ((Int × Int × Int) × (Int × Int × Int) × Int)) × (List ((Int × Int × Int) × (Int × Int × Int) × (Int × Int × Int) × Int)) × (List (Int × Int × Int × Int)) × Int × (List (Int × Int × Int)) × ((Int × Int × Int) × (Int × Int × Int) × (Int × Int × Int) × Int × Int × Int) × Int × Int) × Bool × ((List ((Int × Int × Int) × (Int × Int × Int) × Int)) × (List ((Int × Int × Int) × (Int × Int × Int) × (Int × Int × Int) × Int)) × (List (Int × Int × Int × Int)) × Int × (List (Int × Int × Int)) × ((Int × Int × Int) × (Int × Int × Int) × (Int × Int × Int) × Int × Int × Int) × Int × Int) × Int × Int × Unit) := (iterT law48_MergeMats.t4 rounds x).run
theorem law48_MergeMats.k4 : bodies 4 (lp Tryd.f4 [2]) = [.loop (loopIn 4 (lp Tryd.f4 [2]))] ∧ WP Tryd.prog 0 (.block 4 (.loop (loopIn 4 (lp Tryd.f4 [2])))) (loopS law48_MergeMats.L4 110 4 [.exit 4, .ret] law48_MergeMats.l4) :=
  loop_tree (L := law48_MergeMats.L4) (F := ({ quiet := (ext (ext (ext (ext (ext (ext (ext (ext (ext (ext (ext (ext (ext Xs 7 law22_Light.q) 8 law48_awake.q) 16 merge_Mats.q) 10 ref22_Check.q) 11 law48_wrong.q) 17 ref48_Alike.q) 18 ref48_Uses.q) 19 merge_Uses.q) 29 merge_Join_1.q) 39 merge_Mats_1.q) 42 merge_Dim_1.q) 68 scene_lights_1.q) 72 scene_within_1.q), deep := noDeep } : Fns)) (D := D0) (tab := []) (t := law48_MergeMats.t4) mixed (quiet_ext (quiet_ext (quiet_ext (quiet_ext (quiet_ext (quiet_ext (quiet_ext (quiet_ext (quiet_ext (quiet_ext (quiet_ext (quiet_ext (quiet_ext Xok law22_Light.ok) law48_awake.ok) merge_Mats.ok) ref22_Check.ok) law48_wrong.ok) ref48_Alike.ok) ref48_Uses.ok) merge_Uses.ok) merge_Join_1.ok) merge_Mats_1.ok) merge_Dim_1.ok) scene_lights_1.ok) scene_within_1.ok) (deep_none _) (fun _ => rfl) (by kernel_rfl) (by kernel_rfl) trivial (fun x => by kernel_rfl)
def law48_MergeMats.L2 : List (Nat × Lay) := [(1, .box TScn), (2, .val .bool), (3, .box TScn), (7, .val TI)]
noncomputable def law48_MergeMats.t2 (x : ((List ((Int × Int × Int) × (Int × Int × Int) × Int)) × (List ((Int × Int × Int) × (Int × Int × Int) × (Int × Int × Int) × Int)) × (List (Int × Int × Int × Int)) × Int × (List (Int × Int × Int)) × ((Int × Int × Int) × (Int × Int × Int) × (Int × Int × Int) × Int × Int × Int) × Int × Int) × Bool × ((List ((Int × Int × Int) × (Int × Int × Int) × Int)) × (List ((Int × Int × Int) × (Int × Int × Int) × (Int × Int × Int) × Int)) × (List (Int × Int × Int × Int)) × Int × (List (Int × Int × Int)) × ((Int × Int × Int) × (Int × Int × Int) × (Int × Int × Int) × Int × Int × Int) × Int × Int) × Int × Unit) : T (Ex × ((List ((Int × Int × Int) × (Int × Int × Int) × Int)) × (List ((Int × Int × Int) × (Int × Int × Int) × (Int × Int × Int) × Int)) × (List (Int × Int × Int × Int)) × Int × (List (Int × Int × Int)) × ((Int × Int × Int) × (Int × Int × Int) × (Int × Int × Int) × Int × Int × Int) × Int × Int) × Bool × ((List ((Int × Int × Int) × (Int × Int × Int) × Int)) × (List ((Int × Int × Int) × (Int × Int × Int) × (Int × Int × Int) × Int)) × (List (Int × Int × Int × Int)) × Int × (List (Int × Int × Int)) × ((Int × Int × Int) × (Int × Int × Int) × (Int × Int × Int) × Int × Int × Int) × Int × Int) × Int × Unit) := T.ite (decide (x.2.2.2.1 < (↑(List.length x.2.2.1.1) : Int))) (T.opt (ref48_Uses (x.2.2.1, x.2.2.2.1)) fun y => T.ite (y == (0 : Int)) (T.ret (Ex.ret, x.1, false, x.2.2.1, x.2.2.2.1, ())) (T.opt (merge_Uses (x.2.2.1, x.2.2.2.1)) fun y => T.opt (ref48_Uses (x.2.2.1, x.2.2.2.1)) fun y_1 => T.ite (y != y_1) (T.ret (Ex.ret, x.1, false, x.2.2.1, x.2.2.2.1, ())) (T.opt (law48_MergeMats.l4 (x.1, x.2.1, x.2.2.1, x.2.2.2.1, (0 : Int), ())) fun y => T.ite (exEq y.1 (Ex.exit (4 : Nat))) (T.ret (Ex.normal, y.2.1, y.2.2.1, y.2.2.2.1, W (y.2.2.2.2.1 + (1 : Int)), ())) (T.ite (exEq y.1 Ex.ret) (T.ret (Ex.ret, y.2.1, y.2.2.1, y.2.2.2.1, y.2.2.2.2.1, ())) T.fail)))) (T.ret (Ex.exit (2 : Nat), x.1, x.2.1, x.2.2.1, x.2.2.2.1, ()))
noncomputable def law48_MergeMats.l2 (x : ((List ((Int × Int × Int) × (Int × Int × Int) × Int)) × (List ((Int × Int × Int) × (Int × Int × Int) × (Int × Int × Int) × Int)) × (List (Int × Int × Int × Int)) × Int × (List (Int × Int × Int)) × ((Int × Int × Int) × (Int × Int × Int) × (Int × Int × Int) × Int × Int × Int) × Int × Int) × Bool × ((List ((Int × Int × Int) × (Int × Int × Int) × Int)) × (List ((Int × Int × Int) × (Int × Int × Int) × (Int × Int × Int) × Int)) × (List (Int × Int × Int × Int)) × Int × (List (Int × Int × Int)) × ((Int × Int × Int) × (Int × Int × Int) × (Int × Int × Int) × Int × Int × Int) × Int × Int) × Int × Unit) : Option (Ex × ((List ((Int × Int × Int) × (Int × Int × Int) × Int)) × (List ((Int × Int × Int) × (Int × Int × Int) × (Int × Int × Int) × Int)) × (List (Int × Int × Int × Int)) × Int × (List (Int × Int × Int)) × ((Int × Int × Int) × (Int × Int × Int) × (Int × Int × Int) × Int × Int × Int) × Int × Int) × Bool × ((List ((Int × Int × Int) × (Int × Int × Int) × Int)) × (List ((Int × Int × Int) × (Int × Int × Int) × (Int × Int × Int) × Int)) × (List (Int × Int × Int × Int)) × Int × (List (Int × Int × Int)) × ((Int × Int × Int) × (Int × Int × Int) × (Int × Int × Int) × Int × Int × Int) × Int × Int) × Int × Unit) := (iterT law48_MergeMats.t2 rounds x).run
theorem law48_MergeMats.k2 : bodies 2 (lp Tryd.f4 []) = [.loop (loopIn 2 (lp Tryd.f4 []))] ∧ WP Tryd.prog 0 (.block 2 (.loop (loopIn 2 (lp Tryd.f4 [])))) (loopS law48_MergeMats.L2 110 2 [.exit 2, .ret] law48_MergeMats.l2) :=
  loop_tree (L := law48_MergeMats.L2) (F := ({ quiet := (ext (ext (ext (ext (ext (ext (ext (ext (ext (ext (ext (ext (ext Xs 7 law22_Light.q) 8 law48_awake.q) 16 merge_Mats.q) 10 ref22_Check.q) 11 law48_wrong.q) 17 ref48_Alike.q) 18 ref48_Uses.q) 19 merge_Uses.q) 29 merge_Join_1.q) 39 merge_Mats_1.q) 42 merge_Dim_1.q) 68 scene_lights_1.q) 72 scene_within_1.q), deep := noDeep } : Fns)) (D := D0) (tab := [(4, loopS law48_MergeMats.L4 110 4 [.exit 4, .ret] law48_MergeMats.l4)]) (t := law48_MergeMats.t2) mixed (quiet_ext (quiet_ext (quiet_ext (quiet_ext (quiet_ext (quiet_ext (quiet_ext (quiet_ext (quiet_ext (quiet_ext (quiet_ext (quiet_ext (quiet_ext Xok law22_Light.ok) law48_awake.ok) merge_Mats.ok) ref22_Check.ok) law48_wrong.ok) ref48_Alike.ok) ref48_Uses.ok) merge_Uses.ok) merge_Join_1.ok) merge_Mats_1.ok) merge_Dim_1.ok) scene_lights_1.ok) scene_within_1.ok) (deep_none _) (fun _ => rfl) (by kernel_rfl) (by kernel_rfl) ⟨law48_MergeMats.k4, trivial⟩ (fun x => by kernel_rfl)
noncomputable def law48_MergeMats.t (x : ((List ((Int × Int × Int) × (Int × Int × Int) × Int)) × (List ((Int × Int × Int) × (Int × Int × Int) × (Int × Int × Int) × Int)) × (List (Int × Int × Int × Int)) × Int × (List (Int × Int × Int)) × ((Int × Int × Int) × (Int × Int × Int) × (Int × Int × Int) × Int × Int × Int) × Int × Int)) : T (Bool) := T.ite (!(decide ((↑x.1.length : Int) ≤ (40 : Int)) && decide ((↑x.2.1.length : Int) ≤ (60 : Int)) && decide ((↑x.2.2.1.length : Int) ≤ (60 : Int)) && decide ((↑x.2.2.2.2.1.length : Int) ≤ (200 : Int)))) (T.ret true) (T.opt (merge_Mats x) fun y => T.opt (ref22_Check x) fun y_1 => T.ite (!(y_1.fst == (0 : Int) && (y_1.snd.fst == (0 : Int) && y_1.snd.snd == (0 : Int)))) (T.ite true (T.opt (law48_wrong (y.2, y_1)) fun y => T.ret y) (T.ret false)) (T.ite (!ErrD.isNil y.2 || (↑(List.length y.1.2.1) : Int) != (↑(List.length x.2.1) : Int)) (T.ret false) (T.opt (ref22_Check y.1) fun y_2 => T.ite (!(y_2.fst == (0 : Int) && (y_2.snd.fst == (0 : Int) && y_2.snd.snd == (0 : Int)))) (T.ret false) (T.opt (law48_MergeMats.l0 (x, false, y.1, (0 : Int), ())) fun y => T.ite (exEq y.1 (Ex.exit (0 : Nat))) (T.opt (law48_MergeMats.l2 (y.2.1, y.2.2.1, y.2.2.2.1, (0 : Int), ())) fun y => T.ite (exEq y.1 (Ex.exit (2 : Nat))) (T.ret (y.2.2.2.1.2.2.2.2.2.1.1.1 == y.2.1.2.2.2.2.2.1.1.1 && (y.2.2.2.1.2.2.2.2.2.1.1.2.1 == y.2.1.2.2.2.2.2.1.1.2.1 && y.2.2.2.1.2.2.2.2.2.1.1.2.2 == y.2.1.2.2.2.2.2.1.1.2.2) && (y.2.2.2.1.2.2.2.2.2.1.2.1.1 == y.2.1.2.2.2.2.2.1.2.1.1 && (y.2.2.2.1.2.2.2.2.2.1.2.1.2.1 == y.2.1.2.2.2.2.2.1.2.1.2.1 && y.2.2.2.1.2.2.2.2.2.1.2.1.2.2 == y.2.1.2.2.2.2.2.1.2.1.2.2) && (y.2.2.2.1.2.2.2.2.2.1.2.2.1.1 == y.2.1.2.2.2.2.2.1.2.2.1.1 && (y.2.2.2.1.2.2.2.2.2.1.2.2.1.2.1 == y.2.1.2.2.2.2.2.1.2.2.1.2.1 && y.2.2.2.1.2.2.2.2.2.1.2.2.1.2.2 == y.2.1.2.2.2.2.2.1.2.2.1.2.2) && (y.2.2.2.1.2.2.2.2.2.1.2.2.2.1 == y.2.1.2.2.2.2.2.1.2.2.2.1 && (y.2.2.2.1.2.2.2.2.2.1.2.2.2.2.1 == y.2.1.2.2.2.2.2.1.2.2.2.2.1 && y.2.2.2.1.2.2.2.2.2.1.2.2.2.2.2 == y.2.1.2.2.2.2.2.1.2.2.2.2.2)))) && y.2.2.2.1.2.2.2.1 == y.2.1.2.2.2.1)) (T.ite (exEq y.1 Ex.ret) (T.ret y.2.2.1) T.fail)) (T.ite (exEq y.1 Ex.ret) (T.ret y.2.2.1) T.fail)))))
noncomputable def law48_MergeMats (x : ((List ((Int × Int × Int) × (Int × Int × Int) × Int)) × (List ((Int × Int × Int) × (Int × Int × Int) × (Int × Int × Int) × Int)) × (List (Int × Int × Int × Int)) × Int × (List (Int × Int × Int)) × ((Int × Int × Int) × (Int × Int × Int) × (Int × Int × Int) × Int × Int × Int) × Int × Int)) : Option (Bool) := (law48_MergeMats.t x).run
noncomputable def law48_MergeMats.q : List AV → T AV := entry [TScn] (outR [.bool]) fun x => .opt (law48_MergeMats x) .ret
theorem law48_MergeMats.ok : FnOK Tryd.prog 4 law48_MergeMats.q :=
  entry_call (ps := [TScn]) (rs := [.bool]) (F := ({ quiet := (ext (ext (ext (ext (ext (ext (ext (ext (ext (ext (ext (ext (ext Xs 7 law22_Light.q) 8 law48_awake.q) 16 merge_Mats.q) 10 ref22_Check.q) 11 law48_wrong.q) 17 ref48_Alike.q) 18 ref48_Uses.q) 19 merge_Uses.q) 29 merge_Join_1.q) 39 merge_Mats_1.q) 42 merge_Dim_1.q) 68 scene_lights_1.q) 72 scene_within_1.q), deep := noDeep } : Fns)) (D := D0) (S := tabS [(0, loopS law48_MergeMats.L0 110 0 [.exit 0, .ret] law48_MergeMats.l0), (2, loopS law48_MergeMats.L2 110 2 [.exit 2, .ret] law48_MergeMats.l2)]) (t := law48_MergeMats.t) mixed (quiet_ext (quiet_ext (quiet_ext (quiet_ext (quiet_ext (quiet_ext (quiet_ext (quiet_ext (quiet_ext (quiet_ext (quiet_ext (quiet_ext (quiet_ext Xok law22_Light.ok) law48_awake.ok) merge_Mats.ok) ref22_Check.ok) law48_wrong.ok) ref48_Alike.ok) ref48_Uses.ok) merge_Uses.ok) merge_Join_1.ok) merge_Mats_1.ok) merge_Dim_1.ok) scene_lights_1.ok) scene_within_1.ok) (deep_none _) Tryd.func4 (by kernel_rfl) (sok_fn ⟨law48_MergeMats.k0, law48_MergeMats.k2, trivial⟩) (by kernel_rfl) (fun x => by kernel_rfl)
end Go.Proofs.Pen

namespace Go.Proofs.Pen
open Go Go.Proofs

def eqM (a b : MatT) : Bool := a.1.1 == b.1.1 && (a.1.2.1 == b.1.2.1 && a.1.2.2 == b.1.2.2) && (a.2.1.1 == b.2.1.1 && (a.2.1.2.1 == b.2.1.2.1 && a.2.1.2.2 == b.2.1.2.2) && a.2.2 == b.2.2)
theorem eqM_iff {a b : MatT} : eqM a b = true ↔ a = b := by
  obtain ⟨⟨a1, a2, a3⟩, ⟨a4, a5, a6⟩, a7⟩ := a
  obtain ⟨⟨b1, b2, b3⟩, ⟨b4, b5, b6⟩, b7⟩ := b
  unfold eqM
  simp only [Bool.and_eq_true, beq_iff_eq, Prod.mk.injEq]

/-- Where it stands first. -/
def ixM (l : List MatT) (m : MatT) : Int := match l.findIdx? (fun y => eqM m y) with
  | some i => i
  | none => -1

theorem Index_run (l : List MatT) (m : MatT) (hl : l.length ≤ 900) : ∀ (n k q : Nat) (r : Int), k + n = l.length → n < q →
    ∃ ex a b, (iterT IndexM.t0 q (l, m, r, (l.length : Int), (k : Int), ())).run = some (ex, l, m, a, (l.length : Int), b, ()) ∧
      (match (l.drop k).findIdx? (fun y => eqM m y) with
        | some i => ex = .ret ∧ a = ((k + i : Nat) : Int)
        | none => ex = .exit 0)
  | n, k, 0, _, _, hm => absurd hm (Nat.not_lt_zero _)
  | 0, k, q + 1, r, hk, _ => by
    refine ⟨.exit 0, r, (k : Int), iter_stop (by simp) ?_, ?_⟩
    · unfold IndexM.t0
      dsimp only
      rw [tr_no (by simp; omega), tr_ret]
    · rw [List.drop_eq_nil_of_le (by omega)]
      simp
  | n + 1, k, q + 1, r, hk, hm => by
    have hlt : k < l.length := by omega
    rw [List.drop_eq_getElem_cons hlt, List.findIdx?_cons]
    by_cases hc : eqM m l[k] = true
    · refine ⟨.ret, (k : Int), (k : Int), iter_stop (by simp) ?_, ?_⟩
      · unfold IndexM.t0
        dsimp only
        rw [tr_yes (by simp; omega), tr_opt, lget_nat _ hlt, Option.bind_some]
        exact (tr_yes hc).trans (tr_ret _)
      · rw [if_pos hc]
        exact ⟨rfl, by simp⟩
    · obtain ⟨ex, a, b, h1, h2⟩ := Index_run l m hl n (k + 1) q r (by omega) (by omega)
      refine ⟨ex, a, b, ?_, ?_⟩
      · rw [← h1]
        refine iter_go ?_
        unfold IndexM.t0
        dsimp only
        rw [tr_yes (by simp; omega), tr_opt, lget_nat _ hlt, Option.bind_some, W_succ (by omega)]
        exact (tr_no (show eqM m l[k] = false by simpa using hc)).trans (tr_ret _)
      · rw [if_neg hc]
        cases hf : (l.drop (k + 1)).findIdx? (fun y => eqM m y) with
        | none => rw [hf] at h2; exact h2
        | some i =>
          rw [hf] at h2
          exact ⟨h2.1, by rw [h2.2]; simp only [Option.map_some]; omega⟩

theorem Index_eq (l : List MatT) (m : MatT) (hl : l.length ≤ 900) : IndexM (l, m) = some (ixM l m) := by
  obtain ⟨ex, a, b, h1, h2⟩ := Index_run l m hl l.length 0 rounds 0 (by omega) (rounds_gt (by omega))
  have e0 : IndexM.l0 (l, m, 0, (l.length : Int), 0, ()) = _ := h1
  unfold IndexM IndexM.t
  dsimp only
  rw [tr_opt, e0, Option.bind_some]
  rw [List.drop_zero] at h2
  unfold ixM
  cases hf : l.findIdx? (fun y => eqM m y) with
  | none => rw [hf] at h2; dsimp only at h2; subst h2; rfl
  | some i =>
    rw [hf] at h2
    obtain ⟨rfl, rfl⟩ := h2
    dsimp only
    rw [tr_no (by rfl), tr_yes (by rfl), tr_ret, Nat.zero_add]

theorem ix_neg {l : List MatT} {m : MatT} : ixM l m < 0 ↔ m ∉ l := by
  unfold ixM
  cases hf : l.findIdx? (fun y => eqM m y) with
  | none =>
    rw [List.findIdx?_eq_none_iff] at hf
    refine ⟨fun _ hm => ?_, fun _ => by simp⟩
    have := hf m hm
    rw [eqM_iff.2 rfl] at this
    cases this
  | some i =>
    obtain ⟨h1, h2, _⟩ := List.findIdx?_eq_some_iff_getElem.1 hf
    refine ⟨fun h => by simp at h; omega, fun h => absurd ?_ h⟩
    rw [eqM_iff.1 h2]
    exact List.getElem_mem _
theorem ix_get {l : List MatT} {m : MatT} (h : m ∈ l) : ∃ i : Nat, ixM l m = i ∧ ∃ hi : i < l.length, l[i] = m := by
  unfold ixM
  cases hf : l.findIdx? (fun y => eqM m y) with
  | none =>
    rw [List.findIdx?_eq_none_iff] at hf
    have := hf m h
    rw [eqM_iff.2 rfl] at this
    cases this
  | some i =>
    obtain ⟨h1, h2, _⟩ := List.findIdx?_eq_some_iff_getElem.1 hf
    exact ⟨i, rfl, h1, (eqM_iff.1 h2).symm⟩

/-! ### How many triangles have a surface -/
def useN (T : List TriT) (i : Int) : Nat := T.countP fun t => t.2.2.2 == i

theorem useN_take (T : List TriT) (i : Int) {k : Nat} (h : k < T.length) : useN (T.take (k + 1)) i = useN (T.take k) i + if T[k].2.2.2 = i then 1 else 0 := by
  unfold useN
  rw [List.take_succ_eq_append_getElem h, List.countP_append, List.countP_singleton]
  by_cases hv : T[k].2.2.2 = i <;> simp [hv]
theorem useN_le (T : List TriT) (i : Int) : useN T i ≤ T.length := List.countP_le_length

theorem Uses_eq (x : ScT) (i : Int) (hx : x.2.1.length ≤ 900) : merge_Uses (x, i) = some (useN x.2.1 i : Int) := by
  have key := iter_count (t := merge_Uses.t0) (fun k => (i, (useN (x.2.1.take k) i : Int), x.2.1, (x.2.1.length : Int), (k : Int), ())) (e := .exit 0) (z := (i, (useN (x.2.1.take x.2.1.length) i : Int), x.2.1, (x.2.1.length : Int), (x.2.1.length : Int), ())) (by simp) x.2.1.length 0 rounds
    (fun k _ hk => by
      have hk : k < x.2.1.length := by omega
      have hc := useN_le (x.2.1.take k) i
      rw [List.length_take] at hc
      unfold merge_Uses.t0
      dsimp only
      rw [tr_yes (by simp; omega), tr_opt, lget_nat _ hk, Option.bind_some, tr_ite, tr_ret, tr_ret, W_succ (k := k) (by omega), W_succ (by omega), useN_take x.2.1 i hk]
      by_cases hv : x.2.1[k].2.2.2 = i
      · rw [if_pos (by simpa using hv), if_pos hv]
      · rw [if_neg (by simpa using hv), if_neg hv]; rfl)
    (by
      unfold merge_Uses.t0
      dsimp only
      rw [Nat.zero_add, tr_no (by simp), tr_ret, List.take_length])
    (rounds_gt (by omega))
  simp only [List.take_zero, List.take_length] at key
  have e0 : merge_Uses.l0 (i, 0, x.2.1, (x.2.1.length : Int), 0, ()) = _ := key
  unfold merge_Uses merge_Uses.t
  dsimp only
  rw [tr_opt, e0, Option.bind_some]
  dsimp only
  rw [tr_yes (by rfl), tr_ret]

/-! ### The surfaces that are needed -/
def mtsU (M : List MatT) (T : List TriT) : Nat → List MatT
  | 0 => []
  | i + 1 => match M[i]? with
    | some m => if 0 < useN T i ∧ m ∉ mtsU M T i then mtsU M T i ++ [m] else mtsU M T i
    | none => mtsU M T i

theorem mts_len (M : List MatT) (T : List TriT) : ∀ i, (mtsU M T i).length ≤ i
  | 0 => Nat.le_refl _
  | i + 1 => by
    have := mts_len M T i
    unfold mtsU
    split
    · split
      · rw [List.length_append, List.length_singleton]; omega
      · omega
    · omega
theorem mts_sub (M : List MatT) (T : List TriT) : ∀ i, ∀ m ∈ mtsU M T i, ∃ j, j < i ∧ M[j]? = some m ∧ 0 < useN T j
  | 0, m, h => by simp [mtsU] at h
  | i + 1, m, h => by
    have ih := mts_sub M T i m
    unfold mtsU at h
    split at h
    · rename_i m' he
      split at h
      · rename_i hc
        rcases List.mem_append.1 h with h | h
        · obtain ⟨j, h1, h2, h3⟩ := ih h; exact ⟨j, by omega, h2, h3⟩
        · rw [List.mem_singleton] at h
          subst h
          exact ⟨i, by omega, he, hc.1⟩
      · obtain ⟨j, h1, h2, h3⟩ := ih h; exact ⟨j, by omega, h2, h3⟩
    · obtain ⟨j, h1, h2, h3⟩ := ih h; exact ⟨j, by omega, h2, h3⟩
theorem mts_grow (M : List MatT) (T : List TriT) {i : Nat} {m : MatT} (h : m ∈ mtsU M T i) : m ∈ mtsU M T (i + 1) := by
  show m ∈ (match M[i]? with
    | some m => if 0 < useN T i ∧ m ∉ mtsU M T i then mtsU M T i ++ [m] else mtsU M T i
    | none => mtsU M T i)
  split
  · split
    · exact List.mem_append_left _ h
    · exact h
  · exact h
theorem mts_has (M : List MatT) (T : List TriT) : ∀ i j : Nat, j < i → ∀ m, M[j]? = some m → 0 < useN T j → m ∈ mtsU M T i
  | 0, j, h, _, _, _ => absurd h (Nat.not_lt_zero _)
  | i + 1, j, h, m, hm, hu => by
    rcases Nat.lt_or_ge j i with hlt | hge
    · exact mts_grow M T (mts_has M T i j hlt m hm hu)
    · have : j = i := by omega
      subst this
      unfold mtsU
      rw [hm]
      dsimp only
      by_cases hmem : m ∈ mtsU M T j
      · rw [if_neg (fun h => h.2 hmem)]; exact hmem
      · rw [if_pos ⟨hu, hmem⟩]; exact List.mem_append_right _ (List.mem_singleton.2 rfl)
theorem mts_nodup (M : List MatT) (T : List TriT) : ∀ i, (mtsU M T i).Pairwise fun a b => a ≠ b
  | 0 => List.Pairwise.nil
  | i + 1 => by
    have ih := mts_nodup M T i
    unfold mtsU
    split
    · split
      · rename_i hc
        rw [List.pairwise_append]
        refine ⟨ih, List.pairwise_singleton _ _, fun a ha b hb => ?_⟩
        rw [List.mem_singleton] at hb
        subst hb
        intro he
        subst he
        exact hc.2 ha
      · exact ih
    · exact ih
end Go.Proofs.Pen

namespace Go.Proofs.Pen
open Go Go.Proofs

def mat0 : MatT := ((0, 0, 0), (0, 0, 0), 0)
def matAt (M : List MatT) (k : Int) : MatT := M.getD k.toNat mat0
theorem matAt_lget (M : List MatT) {k : Int} (h0 : 0 ≤ k) (h1 : k < M.length) : lget M k = some (matAt M k) := by
  obtain ⟨v, rfl⟩ : ∃ v : Nat, k = v := ⟨k.toNat, by omega⟩
  rw [lget_nat M (by omega)]
  unfold matAt
  rw [Int.toNat_natCast, List.getD_eq_getElem?_getD, List.getElem?_eq_getElem (by omega), Option.getD_some]

def matF (acc M : List MatT) (t : TriT) : TriT := (t.1, t.2.1, t.2.2.1, ixM acc (matAt M t.2.2.2))
def accS (x : ScT) : List MatT := mtsU x.1 x.2.1 x.1.length
def matsS (x : ScT) : ScT := (accS x, x.2.1.map (matF (accS x) x.1), x.2.2)

theorem use_pos {T : List TriT} {t : TriT} (h : t ∈ T) : 0 < useN T t.2.2.2 := by
  unfold useN
  rw [List.countP_pos_iff]
  exact ⟨t, h, by simp⟩

theorem need_mem {x : ScT} (hx : okS x) {t : TriT} (ht : t ∈ x.2.1) : matAt x.1 t.2.2.2 ∈ accS x := by
  obtain ⟨_, _, tx, _⟩ := hx
  obtain ⟨h0, h1, _⟩ := tx t ht
  have hu := use_pos ht
  obtain ⟨v, hv⟩ : ∃ v : Nat, t.2.2.2 = v := ⟨t.2.2.2.toNat, by omega⟩
  have hg := matAt_lget x.1 h0 h1
  rw [hv] at hg hu ⊢
  rw [lget_nat x.1 (by omega)] at hg
  exact mts_has x.1 x.2.1 x.1.length v (by omega) _ (by rw [List.getElem?_eq_getElem (by omega)]; exact hg) hu

theorem ok_mats {x : ScT} (hx : okS x) : okS (matsS x) := by
  have hx0 := hx
  obtain ⟨gx, mx, tx, lx, nx, ⟨zx, cx⟩, ex, dx⟩ := hx
  have gx := bigB_false.1 gx
  have hl := mts_len x.1 x.2.1 x.1.length
  unfold matsS
  refine ⟨bigB_false.2 ⟨?_, ?_, gx.2.2⟩, ?_, ?_, ?_, nx, ⟨zx, cx⟩, ex, ?_⟩
  · show (accS x).length ≤ 32
    exact Nat.le_trans hl gx.1
  · dsimp only; rw [List.length_map]; exact gx.2.1
  · intro m hm
    obtain ⟨j, hj, he, _⟩ := mts_sub _ _ _ m hm
    exact mx m (List.mem_of_getElem? he)
  · intro u hu
    obtain ⟨t, ht, rfl⟩ := List.mem_map.1 hu
    obtain ⟨i, hi, hlt, _⟩ := ix_get (need_mem hx0 ht)
    obtain ⟨_, _, h3⟩ := tx t ht
    refine ⟨?_, ?_, h3⟩
    · show 0 ≤ ixM (accS x) (matAt x.1 t.2.2.2)
      omega
    · show ixM (accS x) (matAt x.1 t.2.2.2) < ((accS x).length : Int)
      omega
  · intro l hl
    dsimp only
    rw [List.length_map]
    exact lx l hl
  · rw [← dx]; exact cam_same rfl

theorem lightM {x : ScT} (h : lightB x) : lightB (matsS x) := by
  obtain ⟨h1, h2, h3, h4⟩ := h
  exact ⟨Nat.le_trans (mts_len x.1 x.2.1 x.1.length) h1, by simpa [matsS] using h2, h3, h4⟩

theorem Alike_mats {x : ScT} (hl : lightB x) (hx : okS x) {i : Nat} (hi : i < x.2.1.length) : ref48_Alike (x, (i : Int), matsS x, (i : Int)) = some true := by
  obtain ⟨_, _, l3, _⟩ := hl
  have ht : x.2.1[i] ∈ x.2.1 := List.getElem_mem hi
  have hn := need_mem hx ht
  obtain ⟨_, _, tx, _⟩ := hx
  obtain ⟨h0, h1, _⟩ := tx _ ht
  obtain ⟨j, hj, hlt, he⟩ := ix_get hn
  have hb : lget (matsS x).2.1 (i : Int) = some (matF (accS x) x.1 x.2.1[i]) := by
    unfold matsS
    dsimp only
    rw [lget_nat _ (by rw [List.length_map]; exact hi), List.getElem_map]
  have hm : lget (matsS x).1 (matF (accS x) x.1 x.2.1[i]).2.2.2 = some (matAt x.1 x.2.1[i].2.2.2) := by
    show lget (accS x) (ixM (accS x) (matAt x.1 x.2.1[i].2.2.2)) = _
    rw [hj, lget_nat _ hlt, he]
  unfold ref48_Alike ref48_Alike.t
  dsimp only
  rw [tr_opt, lget_nat _ hi, Option.bind_some, tr_opt, hb, Option.bind_some, tr_opt, RLight_eq x _ l3, Option.bind_some, tr_opt, RLight_eq (matsS x) _ l3, Option.bind_some, tr_yes (by simp [matF]), tr_opt, matAt_lget x.1 h0 h1, Option.bind_some, tr_opt, hm, Option.bind_some, tr_ret]
  simp [matsS]

/-- Each surface that is left has a triangle. -/
theorem left_used {x : ScT} (hx : okS x) {i : Nat} (hi : i < (accS x).length) : 0 < useN (matsS x).2.1 (i : Int) := by
  have hm : (accS x)[i] ∈ accS x := List.getElem_mem hi
  obtain ⟨j, hj, he, hu⟩ := mts_sub _ _ _ _ hm
  unfold useN at hu
  rw [List.countP_pos_iff] at hu
  obtain ⟨t, ht, htj⟩ := hu
  have htj : t.2.2.2 = (j : Int) := by simpa using htj
  have hg : matAt x.1 t.2.2.2 = (accS x)[i] := by
    unfold matAt
    rw [htj, Int.toNat_natCast, List.getD_eq_getElem?_getD, he, Option.getD_some]
  obtain ⟨k, hk, hlt, hke⟩ := ix_get (need_mem hx ht)
  have hik : k = i := by
    have hn := mts_nodup x.1 x.2.1 x.1.length
    rw [List.pairwise_iff_getElem] at hn
    rcases Nat.lt_trichotomy k i with h | h | h
    · exact absurd (hke.trans hg) (hn k i hlt hi h)
    · exact h
    · exact absurd (hke.trans hg).symm (hn i k hi hlt h)
  unfold useN
  rw [List.countP_pos_iff]
  refine ⟨matF (accS x) x.1 t, ?_, ?_⟩
  · unfold matsS
    exact List.mem_map.2 ⟨t, ht, rfl⟩
  · show (ixM (accS x) (matAt x.1 t.2.2.2) == (i : Int)) = true
    rw [hk, hik]
    simp
end Go.Proofs.Pen

namespace Go.Proofs.Pen
open Go Go.Proofs

theorem At_eq (m : MatT) (x : ScT) (h : x.1.length ≤ 900) : merge_Mats_1 (m, x) = some (ixM x.1 m) := by
  unfold merge_Mats_1 merge_Mats_1.t
  dsimp only
  rw [tr_opt, Index_eq _ _ h, Option.bind_some, tr_ret]

theorem Mats_l0 (x : ScT) (hx : lightB x) (T : List TriT) (L : List LitT) (z : Int) (C : List W3) (c : CamT) (k h : Int) :
    merge_Mats.l0 (x, ZS, ([], T, L, z, C, c, k, h, ()), x.1, (x.1.length : Int), 0, ()) = some (.exit 0, x, ZS, (accS x, T, L, z, C, c, k, h, ()), x.1, (x.1.length : Int), (x.1.length : Int), ()) := by
  obtain ⟨x1, x2, _, _⟩ := hx
  have key := iter_count (t := merge_Mats.t0) (fun i => (x, ZS, (mtsU x.1 x.2.1 i, T, L, z, C, c, k, h, ()), x.1, (x.1.length : Int), (i : Int), ())) (e := .exit 0)
    (z := (x, ZS, (mtsU x.1 x.2.1 x.1.length, T, L, z, C, c, k, h, ()), x.1, (x.1.length : Int), (x.1.length : Int), ())) (by simp) x.1.length 0 rounds
    (fun i _ hi => by
      have hi : i < x.1.length := by omega
      have hlen := mts_len x.1 x.2.1 i
      have hstep : mtsU x.1 x.2.1 (i + 1) = if 0 < useN x.2.1 i ∧ x.1[i] ∉ mtsU x.1 x.2.1 i then mtsU x.1 x.2.1 i ++ [x.1[i]] else mtsU x.1 x.2.1 i := by
        show (match x.1[i]? with
          | some m => if 0 < useN x.2.1 i ∧ m ∉ mtsU x.1 x.2.1 i then mtsU x.1 x.2.1 i ++ [m] else mtsU x.1 x.2.1 i
          | none => mtsU x.1 x.2.1 i) = _
        rw [List.getElem?_eq_getElem hi]
      unfold merge_Mats.t0
      dsimp only
      rw [tr_yes (by simp; omega), tr_opt, lget_nat _ hi, Option.bind_some, tr_opt, Uses_eq x _ x2, Option.bind_some, W_succ (by omega), hstep, tr_ite, tr_opt]
      simp only [List.take_length, take_snoc]
      by_cases hu : 0 < useN x.2.1 i
      · rw [if_pos (by simp; omega), At_eq _ _ (by dsimp only; omega), Option.bind_some, tr_ite]
        by_cases hm : x.1[i] ∈ mtsU x.1 x.2.1 i
        · rw [if_neg (by simpa using fun hh => ix_neg.1 hh hm), if_neg (fun hh => hh.2 hm), tr_ret]
        · rw [if_pos (by simpa using ix_neg.2 hm), if_pos ⟨hu, hm⟩, tr_yes (decide_eq_true (room (by omega) (by omega))), tr_ret]
      · rw [if_neg (by simp; omega), if_neg (fun hh => hu hh.1), tr_ret])
    (by
      unfold merge_Mats.t0
      dsimp only
      rw [Nat.zero_add, tr_no (by simp), tr_ret]
      simp only [List.take_length])
    (rounds_gt (by omega))
  exact key

theorem ble_of' {α : Type} {n : Nat} {l : List α} (h : l.length = n) : (Nat.ble n l.length && true) = true := by rw [h]; simp

theorem Mats_l2 (x : ScT) (hx : lightB x) (ho : okS x) (L : List LitT) (z : Int) (C : List W3) (c : CamT) (k h : Int) :
    merge_Mats.l2 (x, ZS, (accS x, x.2.1, L, z, C, c, k, h, ()), x.2.1.length, (x.2.1.length : Int), 0, ()) = some (.exit 2, x, ZS, (accS x, x.2.1.map (matF (accS x) x.1), L, z, C, c, k, h, ()), x.2.1.length, (x.2.1.length : Int), (x.2.1.length : Int), ()) := by
  obtain ⟨x1, x2, _, _⟩ := hx
  have hal : (accS x).length ≤ 900 := Nat.le_trans (mts_len x.1 x.2.1 x.1.length) x1
  let f := matF (accS x) x.1
  have key := iter_count (t := merge_Mats.t2) (fun i => (x, ZS, (accS x, (x.2.1.take i).map f ++ x.2.1.drop i, L, z, C, c, k, h, ()), x.2.1.length, (x.2.1.length : Int), (i : Int), ())) (e := .exit 2)
    (z := (x, ZS, (accS x, (x.2.1.take x.2.1.length).map f ++ x.2.1.drop x.2.1.length, L, z, C, c, k, h, ()), x.2.1.length, (x.2.1.length : Int), (x.2.1.length : Int), ())) (by simp) x.2.1.length 0 rounds
    (fun i _ hi => by
      have hi : i < x.2.1.length := by omega
      obtain ⟨g0, g1, _⟩ := ho.2.2.1 _ (List.getElem_mem hi)
      unfold merge_Mats.t2
      dsimp only
      rw [tr_yes (by simp; omega), tr_yes (by simp; omega), tr_opt, part_get f x.2.1 hi, Option.bind_some, tr_opt, matAt_lget x.1 g0 g1, Option.bind_some, tr_opt, At_eq _ _ (by dsimp only; rw [List.take_length]; exact hal), Option.bind_some, tr_yes (by rw [part_len]; simp; omega), tr_opt, Option.bind_some]
      dsimp only
      rw [show (x.2.1[i].1, x.2.1[i].2.1, x.2.1[i].2.2.1, ixM (List.take (accS x).length (accS x)) (matAt x.1 x.2.1[i].2.2.2)) = f x.2.1[i] by rw [List.take_length]; rfl, part_set f x.2.1 hi, W_succ (by omega)]
      have ht : List.take ((x.2.1.take i).map f ++ x.2.1.drop i).length ((x.2.1.take (i + 1)).map f ++ x.2.1.drop (i + 1)) = (x.2.1.take (i + 1)).map f ++ x.2.1.drop (i + 1) := List.take_of_length_le (by rw [part_len, part_len]; exact Nat.le_refl _)
      refine (tr_yes (ble_of' (l := List.take ((x.2.1.take i).map f ++ x.2.1.drop i).length ((x.2.1.take (i + 1)).map f ++ x.2.1.drop (i + 1))) (by rw [ht]; exact part_len _ _ _))).trans ?_
      rw [ht, tr_ret]
      simp only [List.take_length])
    (by
      unfold merge_Mats.t2
      dsimp only
      rw [Nat.zero_add, tr_no (by simp)]
      refine (tr_yes (ble_of' (l := List.take ((x.2.1.take x.2.1.length).map f ++ x.2.1.drop x.2.1.length).length ((x.2.1.take x.2.1.length).map f ++ x.2.1.drop x.2.1.length)) (by rw [List.take_length]; exact part_len _ _ _))).trans ?_
      rw [tr_ret]
      simp only [List.take_length])
    (rounds_gt (by omega))
  simp only [List.take_zero, List.map_nil, List.nil_append, List.take_length, List.drop_zero, List.drop_length, List.append_nil] at key
  exact key

theorem Mats_eq (x : ScT) (hx : lightB x) : merge_Mats x = some (match wr x with
    | some w => (ZS, mkErr (some w))
    | none => (matsS x, .nil)) := by
  unfold merge_Mats merge_Mats.t
  rw [tr_opt, Check_eq x hx, Option.bind_some, tr_ite, mkErr_nil]
  cases hw : wr x with
  | some w => rfl
  | none =>
  have ho := wr_none.1 hw
  obtain ⟨x1, x2, x3, x4⟩ := hx
  rw [if_neg (by simp)]
  dsimp only
  rw [tr_yes (decide_eq_true (small60 x1 (by omega))), tr_yes (decide_eq_true (small60 x2 (by omega))), tr_yes (decide_eq_true (small60 x3 (by omega))), tr_yes (decide_eq_true (small60 x4 (by omega)))]
  rw [List.take_length, List.take_length, List.take_length, tr_opt, Mats_l0 x ⟨x1, x2, x3, x4⟩, Option.bind_some]
  dsimp only
  rw [tr_yes (by rfl)]
  refine (tr_yes (ble_of' (l := List.take x.2.1.length x.2.1) (by rw [List.take_length]))).trans ?_
  simp only [List.take_length]
  rw [tr_opt, Mats_l2 x ⟨x1, x2, x3, x4⟩ ho, Option.bind_some]
  dsimp only
  rw [tr_yes (by rfl), tr_ret]
  rfl

theorem RUses_eq (x : ScT) (i : Int) (hx : x.2.1.length ≤ 900) : ref48_Uses (x, i) = some (useN x.2.1 i : Int) := by
  have key := iter_count (t := ref48_Uses.t0) (fun k => (i, x, (useN (x.2.1.take k) i : Int), (k : Int), ())) (e := .exit 0) (z := (i, x, (useN (x.2.1.take x.2.1.length) i : Int), (x.2.1.length : Int), ())) (by simp) x.2.1.length 0 rounds
    (fun k _ hk => by
      have hk : k < x.2.1.length := by omega
      have hc := useN_le (x.2.1.take k) i
      rw [List.length_take] at hc
      unfold ref48_Uses.t0
      dsimp only
      rw [tr_yes (by simp; omega), tr_opt, lget_nat _ hk, Option.bind_some, tr_ite, tr_ret, tr_ret, W_succ (k := k) (by omega), W_succ (by omega), useN_take x.2.1 i hk]
      by_cases hv : x.2.1[k].2.2.2 = i
      · rw [if_pos (by simpa using hv), if_pos hv]
      · rw [if_neg (by simpa using hv), if_neg hv]; rfl)
    (by
      unfold ref48_Uses.t0
      dsimp only
      rw [Nat.zero_add, tr_no (by simp), tr_ret, List.take_length])
    (rounds_gt (by omega))
  simp only [List.take_zero, List.take_length] at key
  have e0 : ref48_Uses.l0 (i, x, 0, 0, ()) = _ := key
  unfold ref48_Uses ref48_Uses.t
  dsimp only
  rw [tr_opt, e0, Option.bind_some]
  dsimp only
  rw [tr_yes (by rfl), tr_ret]

theorem LM_l0 (x : ScT) (hx : lightB x) (ho : okS x) : law48_MergeMats.l0 (x, false, matsS x, 0, ()) = some (.exit 0, x, false, matsS x, (x.2.1.length : Int), ()) := by
  have x2 := hx.2.1
  have key := iter_count (t := law48_MergeMats.t0) (fun i => (x, false, matsS x, (i : Int), ())) (e := .exit 0) (z := (x, false, matsS x, (x.2.1.length : Int), ())) (by simp) x.2.1.length 0 rounds
    (fun i _ hi => by
      unfold law48_MergeMats.t0
      dsimp only
      rw [tr_yes (by simp; omega), tr_opt, Alike_mats hx ho (by omega), Option.bind_some, tr_no (by rfl), tr_ret, W_succ (by omega)])
    (by
      unfold law48_MergeMats.t0
      dsimp only
      rw [Nat.zero_add, tr_no (by simp), tr_ret])
    (rounds_gt (by omega))
  exact key

theorem LM_l4 (x : ScT) (hx : lightB x) {i : Nat} (hi : i < (accS x).length) : law48_MergeMats.l4 (x, false, matsS x, (i : Int), 0, ()) = some (.exit 4, x, false, matsS x, (i : Int), (i : Int), ()) := by
  have hal : (accS x).length ≤ 900 := Nat.le_trans (mts_len x.1 x.2.1 x.1.length) hx.1
  have hn := mts_nodup x.1 x.2.1 x.1.length
  rw [List.pairwise_iff_getElem] at hn
  have key := iter_count (t := law48_MergeMats.t4) (fun j => (x, false, matsS x, (i : Int), (j : Int), ())) (e := .exit 4) (z := (x, false, matsS x, (i : Int), (i : Int), ())) (by simp) i 0 rounds
    (fun j _ hj => by
      have hj : j < i := by omega
      have h1 : lget (matsS x).1 (i : Int) = some (accS x)[i] := lget_nat (accS x) hi
      have h2 : lget (matsS x).1 (j : Int) = some ((accS x)[j]'(by omega)) := lget_nat (accS x) (by omega)
      have hne : eqM (accS x)[i] ((accS x)[j]'(by omega)) = false := by
        rw [Bool.eq_false_iff]
        intro he
        exact hn j i (by unfold accS at hi; omega) hi hj (eqM_iff.1 he).symm
      unfold law48_MergeMats.t4
      dsimp only
      rw [tr_yes (by simp; omega), tr_opt, h1, Option.bind_some, tr_opt, h2, Option.bind_some, W_succ (by omega)]
      exact (tr_no hne).trans (tr_ret _))
    (by
      unfold law48_MergeMats.t4
      dsimp only
      rw [Nat.zero_add, tr_no (by simp), tr_ret])
    (rounds_gt (by omega))
  exact key

theorem LM_l2 (x : ScT) (hx : lightB x) (ho : okS x) : law48_MergeMats.l2 (x, false, matsS x, 0, ()) = some (.exit 2, x, false, matsS x, ((accS x).length : Int), ()) := by
  have hal : (accS x).length ≤ 900 := Nat.le_trans (mts_len x.1 x.2.1 x.1.length) hx.1
  have hl : (matsS x).2.1.length ≤ 900 := (lightM hx).2.1
  have key := iter_count (t := law48_MergeMats.t2) (fun i => (x, false, matsS x, (i : Int), ())) (e := .exit 2) (z := (x, false, matsS x, ((accS x).length : Int), ())) (by simp) (accS x).length 0 rounds
    (fun i _ hi => by
      have hi : i < (accS x).length := by omega
      have hu := left_used ho hi
      unfold law48_MergeMats.t2
      dsimp only
      rw [tr_yes (decide_eq_true (show (i : Int) < ((matsS x).1.length : Int) from (by omega : (i : Int) < ((accS x).length : Int)))), tr_opt, RUses_eq _ _ hl, Option.bind_some, tr_no (by simp; omega), tr_opt, Uses_eq _ _ hl, Option.bind_some, tr_opt, Option.bind_some, tr_no (by simp), tr_opt, LM_l4 x hx hi, Option.bind_some]
      dsimp only
      rw [tr_yes (by rfl), tr_ret, W_succ (by omega)])
    (by
      unfold law48_MergeMats.t2
      dsimp only
      rw [Nat.zero_add, tr_no (by simp [matsS]), tr_ret])
    (rounds_gt (by omega))
  exact key

theorem MergeMats_law (x : ScT) : (law48_MergeMats.t x).run = some true := by
  unfold law48_MergeMats.t
  rw [tr_ite]
  by_cases hl : x.1.length ≤ 40 ∧ x.2.1.length ≤ 60 ∧ x.2.2.1.length ≤ 60 ∧ x.2.2.2.2.1.length ≤ 200
  case neg => rw [if_pos (by simp; omega), tr_ret]
  have hx := lightOf hl
  rw [if_neg (by simp; omega), tr_opt, Mats_eq x hx, Option.bind_some, tr_opt, RCheck_eq x hx, Option.bind_some, tr_ite, mkW_zero (fun w h => wr_ok h)]
  cases hw : wr x with
  | some w =>
    rw [if_pos (by rfl), tr_yes (by rfl), tr_opt]
    dsimp only
    rw [wrong_eq (wr_ok hw), Option.bind_some, tr_ret]
  | none =>
    have ho := wr_none.1 hw
    rw [if_neg (by simp)]
    dsimp only
    rw [tr_no (by simp [matsS, ErrD.isNil]), tr_opt, RCheck_eq _ (lightM hx), Option.bind_some, wr_none.2 (ok_mats ho), tr_no (by rfl), tr_opt, LM_l0 x hx ho, Option.bind_some]
    dsimp only
    rw [tr_yes (by rfl), tr_opt, LM_l2 x hx ho, Option.bind_some]
    dsimp only
    rw [tr_yes (by rfl), tr_ret]
    simp [matsS]

theorem MergeMats_all (x : dens [TScn]) (_ : insAll [TScn] x) : (law48_MergeMats.t x).run = some true := MergeMats_law x
end Go.Proofs.Pen
