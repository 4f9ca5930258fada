/- A part of the proof that the law MergeDims is true of every input: models of the functions that the law reaches, and what holds of them. -/
import Derived.Test.YtdcdmooafepbiaaDoorPenKit0
import Derived.Test.YtdcdmooafepbiaaDoorPenKit1
import Derived.Test.YtdcdmooafepbiaaDoorPenKit2
import Derived.Test.YtdcdmooafepbiaaDoorPenKit3
import Derived.Test.YtdcdmooafepbiaaDoorPenMergeDims4
namespace Go.Proofs.Pen
open Go Go.Proofs
def ref22_Same.L0 : List (Nat × Lay) := [(2, .box TScn), (3, .box TScn), (4, .val .bool), (5, .val TI)]
noncomputable def ref22_Same.t0 (x : ((List ((Int × Int × Int) × (Int × Int × Int) × Int)) × (List ((Int × Int × Int) × (Int × Int × Int) × (Int × Int × Int) × Int)) × (List (Int × Int × Int × Int)) × Int × (List (Int × Int × Int)) × ((Int × Int × Int) × (Int × Int × Int) × (Int × Int × Int) × Int × Int × Int) × Int × Int) × ((List ((Int × Int × Int) × (Int × Int × Int) × Int)) × (List ((Int × Int × Int) × (Int × Int × Int) × (Int × Int × Int) × Int)) × (List (Int × Int × Int × Int)) × Int × (List (Int × Int × Int)) × ((Int × Int × Int) × (Int × Int × Int) × (Int × Int × Int) × Int × Int × Int) × Int × Int) × Bool × Int × Unit) : T (Ex × ((List ((Int × Int × Int) × (Int × Int × Int) × Int)) × (List ((Int × Int × Int) × (Int × Int × Int) × (Int × Int × Int) × Int)) × (List (Int × Int × Int × Int)) × Int × (List (Int × Int × Int)) × ((Int × Int × Int) × (Int × Int × Int) × (Int × Int × Int) × Int × Int × Int) × Int × Int) × ((List ((Int × Int × Int) × (Int × Int × Int) × Int)) × (List ((Int × Int × Int) × (Int × Int × Int) × (Int × Int × Int) × Int)) × (List (Int × Int × Int × Int)) × Int × (List (Int × Int × Int)) × ((Int × Int × Int) × (Int × Int × Int) × (Int × Int × Int) × Int × Int × Int) × Int × Int) × Bool × Int × Unit) := T.ite (decide (x.2.2.2.1 < (↑(List.length x.1.1) : Int))) (T.opt (lget x.1.1 x.2.2.2.1) fun y => T.opt (lget x.2.1.1 x.2.2.2.1) fun y_1 => T.ite (!(y.1.1 == y_1.fst.fst && (y.1.2.1 == y_1.fst.snd.fst && y.1.2.2 == y_1.fst.snd.snd) && (y.2.1.1 == y_1.snd.fst.fst && (y.2.1.2.1 == y_1.snd.fst.snd.fst && y.2.1.2.2 == y_1.snd.fst.snd.snd) && y.2.2 == y_1.snd.snd))) (T.ret (Ex.ret, x.1, x.2.1, false, x.2.2.2.1, ())) (T.ret (Ex.normal, x.1, x.2.1, x.2.2.1, W (x.2.2.2.1 + (1 : Int)), ()))) (T.ret (Ex.exit (0 : Nat), x.1, x.2.1, x.2.2.1, x.2.2.2.1, ()))
noncomputable def ref22_Same.l0 (x : ((List ((Int × Int × Int) × (Int × Int × Int) × Int)) × (List ((Int × Int × Int) × (Int × Int × Int) × (Int × Int × Int) × Int)) × (List (Int × Int × Int × Int)) × Int × (List (Int × Int × Int)) × ((Int × Int × Int) × (Int × Int × Int) × (Int × Int × Int) × Int × Int × Int) × Int × Int) × ((List ((Int × Int × Int) × (Int × Int × Int) × Int)) × (List ((Int × Int × Int) × (Int × Int × Int) × (Int × Int × Int) × Int)) × (List (Int × Int × Int × Int)) × Int × (List (Int × Int × Int)) × ((Int × Int × Int) × (Int × Int × Int) × (Int × Int × Int) × Int × Int × Int) × Int × Int) × Bool × Int × Unit) : Option (Ex × ((List ((Int × Int × Int) × (Int × Int × Int) × Int)) × (List ((Int × Int × Int) × (Int × Int × Int) × (Int × Int × Int) × Int)) × (List (Int × Int × Int × Int)) × Int × (List (Int × Int × Int)) × ((Int × Int × Int) × (Int × Int × Int) × (Int × Int × Int) × Int × Int × Int) × Int × Int) × ((List ((Int × Int × Int) × (Int × Int × Int) × Int)) × (List ((Int × Int × Int) × (Int × Int × Int) × (Int × Int × Int) × Int)) × (List (Int × Int × Int × Int)) × Int × (List (Int × Int × Int)) × ((Int × Int × Int) × (Int × Int × Int) × (Int × Int × Int) × Int × Int × Int) × Int × Int) × Bool × Int × Unit) := (iterT ref22_Same.t0 rounds x).run
theorem ref22_Same.k0 : bodies 0 (lp Tryd.f12 []) = [.loop (loopIn 0 (lp Tryd.f12 []))] ∧ WP Tryd.prog 0 (.block 0 (.loop (loopIn 0 (lp Tryd.f12 [])))) (loopS ref22_Same.L0 143 0 [.exit 0, .ret] ref22_Same.l0) :=
  loop_tree (L := ref22_Same.L0) (F := ({ quiet := Xs, deep := noDeep } : Fns)) (D := D0) (tab := []) (t := ref22_Same.t0) mixed Xok (deep_none _) (fun _ => rfl) (by kernel_rfl) (by kernel_rfl) trivial (fun x => by kernel_rfl)
def ref22_Same.L2 : List (Nat × Lay) := [(2, .box TScn), (3, .box TScn), (4, .val .bool), (6, .val TI)]
noncomputable def ref22_Same.t2 (x : ((List ((Int × Int × Int) × (Int × Int × Int) × Int)) × (List ((Int × Int × Int) × (Int × Int × Int) × (Int × Int × Int) × Int)) × (List (Int × Int × Int × Int)) × Int × (List (Int × Int × Int)) × ((Int × Int × Int) × (Int × Int × Int) × (Int × Int × Int) × Int × Int × Int) × Int × Int) × ((List ((Int × Int × Int) × (Int × Int × Int) × Int)) × (List ((Int × Int × Int) × (Int × Int × Int) × (Int × Int × Int) × Int)) × (List (Int × Int × Int × Int)) × Int × (List (Int × Int × Int)) × ((Int × Int × Int) × (Int × Int × Int) × (Int × Int × Int) × Int × Int × Int) × Int × Int) × Bool × Int × Unit) : T (Ex × ((List ((Int × Int × Int) × (Int × Int × Int) × Int)) × (List ((Int × Int × Int) × (Int × Int × Int) × (Int × Int × Int) × Int)) × (List (Int × Int × Int × Int)) × Int × (List (Int × Int × Int)) × ((Int × Int × Int) × (Int × Int × Int) × (Int × Int × Int) × Int × Int × Int) × Int × Int) × ((List ((Int × Int × Int) × (Int × Int × Int) × Int)) × (List ((Int × Int × Int) × (Int × Int × Int) × (Int × Int × Int) × Int)) × (List (Int × Int × Int × Int)) × Int × (List (Int × Int × Int)) × ((Int × Int × Int) × (Int × Int × Int) × (Int × Int × Int) × Int × Int × Int) × Int × Int) × Bool × Int × Unit) := T.ite (decide (x.2.2.2.1 < (↑(List.length x.1.2.1) : Int))) (T.opt (lget x.1.2.1 x.2.2.2.1) fun y => T.opt (lget x.2.1.2.1 x.2.2.2.1) fun y_1 => T.ite (!(y.1.1 == y_1.fst.fst && (y.1.2.1 == y_1.fst.snd.fst && y.1.2.2 == y_1.fst.snd.snd) && (y.2.1.1 == y_1.snd.fst.fst && (y.2.1.2.1 == y_1.snd.fst.snd.fst && y.2.1.2.2 == y_1.snd.fst.snd.snd) && (y.2.2.1.1 == y_1.snd.snd.fst.fst && (y.2.2.1.2.1 == y_1.snd.snd.fst.snd.fst && y.2.2.1.2.2 == y_1.snd.snd.fst.snd.snd) && y.2.2.2 == y_1.snd.snd.snd)))) (T.ret (Ex.ret, x.1, x.2.1, false, x.2.2.2.1, ())) (T.ret (Ex.normal, x.1, x.2.1, x.2.2.1, W (x.2.2.2.1 + (1 : Int)), ()))) (T.ret (Ex.exit (2 : Nat), x.1, x.2.1, x.2.2.1, x.2.2.2.1, ()))
noncomputable def ref22_Same.l2 (x : ((List ((Int × Int × Int) × (Int × Int × Int) × Int)) × (List ((Int × Int × Int) × (Int × Int × Int) × (Int × Int × Int) × Int)) × (List (Int × Int × Int × Int)) × Int × (List (Int × Int × Int)) × ((Int × Int × Int) × (Int × Int × Int) × (Int × Int × Int) × Int × Int × Int) × Int × Int) × ((List ((Int × Int × Int) × (Int × Int × Int) × Int)) × (List ((Int × Int × Int) × (Int × Int × Int) × (Int × Int × Int) × Int)) × (List (Int × Int × Int × Int)) × Int × (List (Int × Int × Int)) × ((Int × Int × Int) × (Int × Int × Int) × (Int × Int × Int) × Int × Int × Int) × Int × Int) × Bool × Int × Unit) : Option (Ex × ((List ((Int × Int × Int) × (Int × Int × Int) × Int)) × (List ((Int × Int × Int) × (Int × Int × Int) × (Int × Int × Int) × Int)) × (List (Int × Int × Int × Int)) × Int × (List (Int × Int × Int)) × ((Int × Int × Int) × (Int × Int × Int) × (Int × Int × Int) × Int × Int × Int) × Int × Int) × ((List ((Int × Int × Int) × (Int × Int × Int) × Int)) × (List ((Int × Int × Int) × (Int × Int × Int) × (Int × Int × Int) × Int)) × (List (Int × Int × Int × Int)) × Int × (List (Int × Int × Int)) × ((Int × Int × Int) × (Int × Int × Int) × (Int × Int × Int) × Int × Int × Int) × Int × Int) × Bool × Int × Unit) := (iterT ref22_Same.t2 rounds x).run
theorem ref22_Same.k2 : bodies 2 (lp Tryd.f12 []) = [.loop (loopIn 2 (lp Tryd.f12 []))] ∧ WP Tryd.prog 0 (.block 2 (.loop (loopIn 2 (lp Tryd.f12 [])))) (loopS ref22_Same.L2 143 2 [.exit 2, .ret] ref22_Same.l2) :=
  loop_tree (L := ref22_Same.L2) (F := ({ quiet := Xs, deep := noDeep } : Fns)) (D := D0) (tab := []) (t := ref22_Same.t2) mixed Xok (deep_none _) (fun _ => rfl) (by kernel_rfl) (by kernel_rfl) trivial (fun x => by kernel_rfl)
def ref22_Same.L4 : List (Nat × Lay) := [(2, .box TScn), (3, .box TScn), (4, .val .bool), (7, .val TI)]
noncomputable def ref22_Same.t4 (x : ((List ((Int × Int × Int) × (Int × Int × Int) × Int)) × (List ((Int × Int × Int) × (Int × Int × Int) × (Int × Int × Int) × Int)) × (List (Int × Int × Int × Int)) × Int × (List (Int × Int × Int)) × ((Int × Int × Int) × (Int × Int × Int) × (Int × Int × Int) × Int × Int × Int) × Int × Int) × ((List ((Int × Int × Int) × (Int × Int × Int) × Int)) × (List ((Int × Int × Int) × (Int × Int × Int) × (Int × Int × Int) × Int)) × (List (Int × Int × Int × Int)) × Int × (List (Int × Int × Int)) × ((Int × Int × Int) × (Int × Int × Int) × (Int × Int × Int) × Int × Int × Int) × Int × Int) × Bool × Int × Unit) : T (Ex × ((List ((Int × Int × Int) × (Int × Int × Int) × Int)) × (List ((Int × Int × Int) × (Int × Int × Int) × (Int × Int × Int) × Int)) × (List (Int × Int × Int × Int)) × Int × (List (Int × Int × Int)) × ((Int × Int × Int) × (Int × Int × Int) × (Int × Int × Int) × Int × Int × Int) × Int × Int) × ((List ((Int × Int × Int) × (Int × Int × Int) × Int)) × (List ((Int × Int × Int) × (Int × Int × Int) × (Int × Int × Int) × Int)) × (List (Int × Int × Int × Int)) × Int × (List (Int × Int × Int)) × ((Int × Int × Int) × (Int × Int × Int) × (Int × Int × Int) × Int × Int × Int) × Int × Int) × Bool × Int × Unit) := T.ite (decide (x.2.2.2.1 < (↑(List.length x.1.2.2.1) : Int))) (T.opt (lget x.1.2.2.1 x.2.2.2.1) fun y => T.opt (lget x.2.1.2.2.1 x.2.2.2.1) fun y_1 => T.ite (!(y.1 == y_1.fst && (y.2.1 == y_1.snd.fst && (y.2.2.1 == y_1.snd.snd.fst && y.2.2.2 == y_1.snd.snd.snd)))) (T.ret (Ex.ret, x.1, x.2.1, false, x.2.2.2.1, ())) (T.ret (Ex.normal, x.1, x.2.1, x.2.2.1, W (x.2.2.2.1 + (1 : Int)), ()))) (T.ret (Ex.exit (4 : Nat), x.1, x.2.1, x.2.2.1, x.2.2.2.1, ()))
noncomputable def ref22_Same.l4 (x : ((List ((Int × Int × Int) × (Int × Int × Int) × Int)) × (List ((Int × Int × Int) × (Int × Int × Int) × (Int × Int × Int) × Int)) × (List (Int × Int × Int × Int)) × Int × (List (Int × Int × Int)) × ((Int × Int × Int) × (Int × Int × Int) × (Int × Int × Int) × Int × Int × Int) × Int × Int) × ((List ((Int × Int × Int) × (Int × Int × Int) × Int)) × (List ((Int × Int × Int) × (Int × Int × Int) × (Int × Int × Int) × Int)) × (List (Int × Int × Int × Int)) × Int × (List (Int × Int × Int)) × ((Int × Int × Int) × (Int × Int × Int) × (Int × Int × Int) × Int × Int × Int) × Int × Int) × Bool × Int × Unit) : Option (Ex × ((List ((Int × Int × Int) × (Int × Int × Int) × Int)) × (List ((Int × Int × Int) × (Int × Int × Int) × (Int × Int × Int) × Int)) × (List (Int × Int × Int × Int)) × Int × (List (Int × Int × Int)) × ((Int × Int × Int) × (Int × Int × Int) × (Int × Int × Int) × Int × Int × Int) × Int × Int) × ((List ((Int × Int × Int) × (Int × Int × Int) × Int)) × (List ((Int × Int × Int) × (Int × Int × Int) × (Int × Int × Int) × Int)) × (List (Int × Int × Int × Int)) × Int × (List (Int × Int × Int)) × ((Int × Int × Int) × (Int × Int × Int) × (Int × Int × Int) × Int × Int × Int) × Int × Int) × Bool × Int × Unit) := (iterT ref22_Same.t4 rounds x).run
theorem ref22_Same.k4 : bodies 4 (lp Tryd.f12 []) = [.loop (loopIn 4 (lp Tryd.f12 []))] ∧ WP Tryd.prog 0 (.block 4 (.loop (loopIn 4 (lp Tryd.f12 [])))) (loopS ref22_Same.L4 143 4 [.exit 4, .ret] ref22_Same.l4) :=
  loop_tree (L := ref22_Same.L4) (F := ({ quiet := Xs, deep := noDeep } : Fns)) (D := D0) (tab := []) (t := ref22_Same.t4) mixed Xok (deep_none _) (fun _ => rfl) (by kernel_rfl) (by kernel_rfl) trivial (fun x => by kernel_rfl)
def ref22_Same.L6 : List (Nat × Lay) := [(2, .box TScn), (3, .box TScn), (4, .val .bool), (8, .val TI)]
noncomputable def ref22_Same.t6 (x : ((List ((Int × Int × Int) × (Int × Int × Int) × Int)) × (List ((Int × Int × Int) × (Int × Int × Int) × (Int × Int × Int) × Int)) × (List (Int × Int × Int × Int)) × Int × (List (Int × Int × Int)) × ((Int × Int × Int) × (Int × Int × Int) × (Int × Int × Int) × Int × Int × Int) × Int × Int) × ((List ((Int × Int × Int) × (Int × Int × Int) × Int)) × (List ((Int × Int × Int) × (Int × Int × Int) × (Int × Int × Int) × Int)) × (List (Int × Int × Int × Int)) × Int × (List (Int × Int × Int)) × ((Int × Int × Int) × (Int × Int × Int) × (Int × Int × Int) × Int × Int × Int) × Int × Int) × Bool × Int × Unit) : T (Ex × ((List ((Int × Int × Int) × (Int × Int × Int) × Int)) × (List ((Int × Int × Int) × (Int × Int × Int) × (Int × Int × Int) × Int)) × (List (Int × Int × Int × Int)) × Int × (List (Int × Int × Int)) × ((Int × Int × Int) × (Int × Int × Int) × (Int × Int × Int) × Int × Int × Int) × Int × Int) × ((List ((Int × Int × Int) × (Int × Int × Int) × Int)) × (List ((Int × Int × Int) × (Int × Int × Int) × (Int × Int × Int) × Int)) × (List (Int × Int × Int × Int)) × Int × (List (Int × Int × Int)) × ((Int × Int × Int) × (Int × Int × Int) × (Int × Int × Int) × Int × Int × Int) × Int × Int) × Bool × Int × Unit) := T.ite (decide (x.2.2.2.1 < (↑(List.length x.1.2.2.2.2.1) : Int))) (T.opt (lget x.1.2.2.2.2.1 x.2.2.2.1) fun y => T.opt (lget x.2.1.2.2.2.2.1 x.2.2.2.1) fun y_1 => T.ite (!(y.1 == y_1.fst && (y.2.1 == y_1.snd.fst && y.2.2 == y_1.snd.snd))) (T.ret (Ex.ret, x.1, x.2.1, false, x.2.2.2.1, ())) (T.ret (Ex.normal, x.1, x.2.1, x.2.2.1, W (x.2.2.2.1 + (1 : Int)), ()))) (T.ret (Ex.exit (6 : Nat), x.1, x.2.1, x.2.2.1, x.2.2.2.1, ()))
noncomputable def ref22_Same.l6 (x : ((List ((Int × Int × Int) × (Int × Int × Int) × Int)) × (List ((Int × Int × Int) × (Int × Int × Int) × (Int × Int × Int) × Int)) × (List (Int × Int × Int × Int)) × Int × (List (Int × Int × Int)) × ((Int × Int × Int) × (Int × Int × Int) × (Int × Int × Int) × Int × Int × Int) × Int × Int) × ((List ((Int × Int × Int) × (Int × Int × Int) × Int)) × (List ((Int × Int × Int) × (Int × Int × Int) × (Int × Int × Int) × Int)) × (List (Int × Int × Int × Int)) × Int × (List (Int × Int × Int)) × ((Int × Int × Int) × (Int × Int × Int) × (Int × Int × Int) × Int × Int × Int) × Int × Int) × Bool × Int × Unit) : Option (Ex × ((List ((Int × Int × Int) × (Int × Int × Int) × Int)) × (List ((Int × Int × Int) × (Int × Int × Int) × (Int × Int × Int) × Int)) × (List (Int × Int × Int × Int)) × Int × (List (Int × Int × Int)) × ((Int × Int × Int) × (Int × Int × Int) × (Int × Int × Int) × Int × Int × Int) × Int × Int) × ((List ((Int × Int × Int) × (Int × Int × Int) × Int)) × (List ((Int × Int × Int) × (Int × Int × Int) × (Int × Int × Int) × Int)) × (List (Int × Int × Int × Int)) × Int × (List (Int × Int × Int)) × ((Int × Int × Int) × (Int × Int × Int) × (Int × Int × Int) × Int × Int × Int) × Int × Int) × Bool × Int × Unit) := (iterT ref22_Same.t6 rounds x).run
theorem ref22_Same.k6 : bodies 6 (lp Tryd.f12 []) = [.loop (loopIn 6 (lp Tryd.f12 []))] ∧ WP Tryd.prog 0 (.block 6 (.loop (loopIn 6 (lp Tryd.f12 [])))) (loopS ref22_Same.L6 143 6 [.exit 6, .ret] ref22_Same.l6) :=
  loop_tree (L := ref22_Same.L6) (F := ({ quiet := Xs, deep := noDeep } : Fns)) (D := D0) (tab := []) (t := ref22_Same.t6) mixed Xok (deep_none _) (fun _ => rfl) (by kernel_rfl) (by kernel_rfl) trivial (fun x => by kernel_rfl)
noncomputable def ref22_Same.t (x : ((List ((Int × Int × Int) × (Int × Int × Int) × Int)) × (List ((Int × Int × Int) × (Int × Int × Int) × (Int × Int × Int) × Int)) × (List (Int × Int × Int × Int)) × Int × (List (Int × Int × Int)) × ((Int × Int × Int) × (Int × Int × Int) × (Int × Int × Int) × Int × Int × Int) × Int × Int) × ((List ((Int × Int × Int) × (Int × Int × Int) × Int)) × (List ((Int × Int × Int) × (Int × Int × Int) × (Int × Int × Int) × Int)) × (List (Int × Int × Int × Int)) × Int × (List (Int × Int × Int)) × ((Int × Int × Int) × (Int × Int × Int) × (Int × Int × Int) × Int × Int × Int) × Int × Int)) : T (Bool) := T.ite ((↑(List.length x.1.1) : Int) != (↑(List.length x.2.1) : Int) || (↑(List.length x.1.2.1) : Int) != (↑(List.length x.2.2.1) : Int) || (↑(List.length x.1.2.2.1) : Int) != (↑(List.length x.2.2.2.1) : Int) || (↑(List.length x.1.2.2.2.2.1) : Int) != (↑(List.length x.2.2.2.2.2.1) : Int) || x.1.2.2.2.1 != x.2.2.2.2.1 || !(x.1.2.2.2.2.2.1.1.1 == x.2.2.2.2.2.2.1.1.1 && (x.1.2.2.2.2.2.1.1.2.1 == x.2.2.2.2.2.2.1.1.2.1 && x.1.2.2.2.2.2.1.1.2.2 == x.2.2.2.2.2.2.1.1.2.2) && (x.1.2.2.2.2.2.1.2.1.1 == x.2.2.2.2.2.2.1.2.1.1 && (x.1.2.2.2.2.2.1.2.1.2.1 == x.2.2.2.2.2.2.1.2.1.2.1 && x.1.2.2.2.2.2.1.2.1.2.2 == x.2.2.2.2.2.2.1.2.1.2.2) && (x.1.2.2.2.2.2.1.2.2.1.1 == x.2.2.2.2.2.2.1.2.2.1.1 && (x.1.2.2.2.2.2.1.2.2.1.2.1 == x.2.2.2.2.2.2.1.2.2.1.2.1 && x.1.2.2.2.2.2.1.2.2.1.2.2 == x.2.2.2.2.2.2.1.2.2.1.2.2) && (x.1.2.2.2.2.2.1.2.2.2.1 == x.2.2.2.2.2.2.1.2.2.2.1 && (x.1.2.2.2.2.2.1.2.2.2.2.1 == x.2.2.2.2.2.2.1.2.2.2.2.1 && x.1.2.2.2.2.2.1.2.2.2.2.2 == x.2.2.2.2.2.2.1.2.2.2.2.2))))) || x.1.2.2.2.2.2.2.1 != x.2.2.2.2.2.2.2.1 || x.1.2.2.2.2.2.2.2 != x.2.2.2.2.2.2.2.2) (T.ret false) (T.opt (ref22_Same.l0 (x.1, x.2, false, (0 : Int), ())) fun y => T.ite (exEq y.1 (Ex.exit (0 : Nat))) (T.opt (ref22_Same.l2 (y.2.1, y.2.2.1, y.2.2.2.1, (0 : Int), ())) fun y => T.ite (exEq y.1 (Ex.exit (2 : Nat))) (T.opt (ref22_Same.l4 (y.2.1, y.2.2.1, y.2.2.2.1, (0 : Int), ())) fun y => T.ite (exEq y.1 (Ex.exit (4 : Nat))) (T.opt (ref22_Same.l6 (y.2.1, y.2.2.1, y.2.2.2.1, (0 : Int), ())) fun y => T.ite (exEq y.1 (Ex.exit (6 : Nat))) (T.ret true) (T.ite (exEq y.1 Ex.ret) (T.ret y.2.2.2.1) T.fail)) (T.ite (exEq y.1 Ex.ret) (T.ret y.2.2.2.1) T.fail)) (T.ite (exEq y.1 Ex.ret) (T.ret y.2.2.2.1) T.fail)) (T.ite (exEq y.1 Ex.ret) (T.ret y.2.2.2.1) T.fail))
noncomputable def ref22_Same (x : ((List ((Int × Int × Int) × (Int × Int × Int) × Int)) × (List ((Int × Int × Int) × (Int × Int × Int) × (Int × Int × Int) × Int)) × (List (Int × Int × Int × Int)) × Int × (List (Int × Int × Int)) × ((Int × Int × Int) × (Int × Int × Int) × (Int × Int × Int) × Int × Int × Int) × Int × Int) × ((List ((Int × Int × Int) × (Int × Int × Int) × Int)) × (List ((Int × Int × Int) × (Int × Int × Int) × (Int × Int × Int) × Int)) × (List (Int × Int × Int × Int)) × Int × (List (Int × Int × Int)) × ((Int × Int × Int) × (Int × Int × Int) × (Int × Int × Int) × Int × Int × Int) × Int × Int)) : Option (Bool) := (ref22_Same.t x).run
noncomputable def ref22_Same.q : List AV → T AV := entry [TScn, TScn] (outR [.bool]) fun x => .opt (ref22_Same x) .ret
theorem ref22_Same.ok : FnOK Tryd.prog 12 ref22_Same.q :=
  entry_call (ps := [TScn, TScn]) (rs := [.bool]) (F := ({ quiet := Xs, deep := noDeep } : Fns)) (D := D0) (S := tabS [(0, loopS ref22_Same.L0 143 0 [.exit 0, .ret] ref22_Same.l0), (2, loopS ref22_Same.L2 143 2 [.exit 2, .ret] ref22_Same.l2), (4, loopS ref22_Same.L4 143 4 [.exit 4, .ret] ref22_Same.l4), (6, loopS ref22_Same.L6 143 6 [.exit 6, .ret] ref22_Same.l6)]) (t := ref22_Same.t) mixed Xok (deep_none _) Tryd.func12 (by kernel_rfl) (sok_fn ⟨ref22_Same.k0, ref22_Same.k2, ref22_Same.k4, ref22_Same.k6, trivial⟩) (by kernel_rfl) (fun x => by kernel_rfl)
end Go.Proofs.Pen

namespace Go.Proofs.Pen
open Go Go.Proofs

theorem errIs_eq (e : ErrD) (c : Int) (hn : e.isNil = false) (h : e.depth ≤ 1000) : errors_Is (e, c) = some (e.has c) := by
  have h1 : errors_is (e, c, true) = some (e.has c) := by
    obtain ⟨e', he⟩ := is_run c false e rounds (rounds_gt (by omega))
    unfold errors_is errors_is.t
    dsimp only
    have hl : errors_is.l0 (e, c, true, false, ()) = some (.ret, e', c, true, e.has c, ()) := he
    rw [tr_opt, hl, Option.bind_some, tr_ite, if_pos (by rfl), tr_ret]
  unfold errors_Is errors_Is.t
  dsimp only
  rw [tr_ite, hn, if_neg (by simp), tr_opt, h1, Option.bind_some, tr_ret]

theorem Broken_eq (e : ErrD) (hn : e.isNil = false) (h : e.depth ≤ 1000) : merge_Broken e = some (e.has 11 || e.has 10) := by
  unfold merge_Broken merge_Broken.t
  rw [tr_opt, errIs_eq e 11 hn h, Option.bind_some, tr_ite, tr_ret, tr_opt, errIs_eq e 10 hn h, Option.bind_some, tr_ret]
  cases e.has 11 <;> simp

theorem wrong_eq {w : W3} (h : codeOK w) : law48_wrong (mkErr (some w), mkW (some w)) = some true := by
  have hi : fault_Is (mkErr (some w), w.2.1) = some true := by
    rw [mkErr_mkR, Is_eq _ _ (by rw [depth_mkR]; simp), has_mkR]
    simp
  have hb : merge_Broken (mkErr (some w)) = some true := by
    rw [mkErr_mkR, Broken_eq _ rfl (by rw [depth_mkR]; simp), has_mkR, has_mkR]
    obtain ⟨h1 | h1, _⟩ := h <;> simp [h1]
  unfold law48_wrong law48_wrong.t
  dsimp only [mkW]
  rw [tr_yes (show (!ErrD.isNil (mkErr (some w))) = true from rfl), tr_yes (show ((mkErr (some w)).top == w.1) = true from beq_self_eq_true w.1), tr_opt, hi, Option.bind_some, tr_yes rfl, tr_opt, hb, Option.bind_some, tr_ret]

/-! ### Scenes that may be -/
def matG (m : MatT) : Prop := matW m 0 = none
def triG (n : Int) (t : TriT) : Prop := 0 ≤ t.2.2.2 ∧ t.2.2.2 < n ∧ (in3 t.1 (-1048576) 1048576 && in3 t.2.1 (-1048576) 1048576 && in3 t.2.2.1 (-1048576) 1048576) = true ∧ flatB (lessW t.2.1 t.1) (lessW t.2.2.1 t.1) = false
def litG (n : Int) (l : LitT) : Prop := 0 ≤ l.1 ∧ l.1 < n ∧ in3 l.2 0 67108863 = true
def okS (x : ScT) : Prop := bigB x = false ∧ (∀ m ∈ x.1, matG m) ∧ (∀ t ∈ x.2.1, triG x.1.length t) ∧ (∀ l ∈ x.2.2.1, litG x.2.1.length l) ∧ (x.2.2.1.Pairwise fun a b => a.1 ≠ b.1) ∧
  (0 ≤ x.2.2.2.1 ∧ (x.2.2.2.2.1.length : Int) = 8 * x.2.2.2.1) ∧ (∀ c ∈ x.2.2.2.2.1, in3 c 0 67108863 = true) ∧ camW x = none

theorem firstF_none_iff {f : Nat → Option W3} {n : Nat} : (firstF f 0 n).map (·.2) = none ↔ ∀ i, i < n → f i = none := by
  constructor
  · intro h i hi
    have h : firstF f 0 n = none := by simpa using h
    exact firstF_none h i (Nat.zero_le _) (by omega)
  · intro h
    cases hf : firstF f 0 n with
    | none => rfl
    | some p =>
      obtain ⟨i, w⟩ := p
      obtain ⟨_, h2, h3⟩ := firstF_some hf
      rw [h i (by omega)] at h3
      cases h3

theorem matW_none {m : MatT} {p : Int} : matW m p = none ↔ matG m := by
  unfold matG matW
  split
  · simp
  · split <;> simp

theorem triW_none {n : Int} {t : TriT} {p : Int} : triW n t p = none ↔ triG n t := by
  unfold triG triW
  by_cases h : 0 ≤ t.2.2.2 ∧ t.2.2.2 < n
  · rw [if_neg (by simp; omega)]
    generalize (in3 t.1 (-1048576) 1048576 && in3 t.2.1 (-1048576) 1048576 && in3 t.2.2.1 (-1048576) 1048576) = q1
    generalize flatB (lessW t.2.1 t.1) (lessW t.2.2.1 t.1) = q2
    cases q1 <;> cases q2 <;> simp [h.1, h.2]
  · rw [if_pos (by simp; omega)]
    constructor
    · intro hh; cases hh
    · rintro ⟨h1, h2, _⟩; exact absurd ⟨h1, h2⟩ h

theorem litW_none {n : Int} {a : List LitT} {t : LitT} {p : Int} : litW n a t p = none ↔ litG n t ∧ ∀ y ∈ a, y.1 ≠ t.1 := by
  unfold litG litW
  by_cases h : (decide (t.1 < 0) || decide (t.1 ≥ n) || a.any fun y => t.1 == y.1) = true
  · rw [if_pos h]
    constructor
    · intro hh; cases hh
    · rintro ⟨⟨h1, h2, _⟩, h3⟩
      simp only [Bool.or_eq_true, decide_eq_true_eq, List.any_eq_true, beq_iff_eq] at h
      rcases h with (h | h) | ⟨y, hy, h⟩
      · omega
      · omega
      · exact absurd h.symm (h3 y hy)
  · rw [if_neg h]
    simp only [Bool.or_eq_true, decide_eq_true_eq, List.any_eq_true, beq_iff_eq, not_or, not_exists, not_and] at h
    obtain ⟨⟨h1, h2⟩, h3⟩ := h
    split
    · rename_i h4
      constructor
      · intro hh; cases hh
      · rintro ⟨⟨_, _, h5⟩, _⟩; rw [h4] at h5; cases h5
    · rename_i h4
      constructor
      · intro _; exact ⟨⟨by omega, by omega, nf h4⟩, fun y hy hh => h3 y hy hh.symm⟩
      · intro _; rfl

theorem celW_none {c : W3} {p : Int} : celW c p = none ↔ in3 c 0 67108863 = true := by
  unfold celW
  split
  · rename_i h; simp [h]
  · rename_i h; simp [nf h]

theorem orElse_none {a b : Option W3} : orElse' a b = none ↔ a = none ∧ b = none := by
  cases a <;> simp [orElse']

theorem wr_none {x : ScT} : wr x = none ↔ okS x := by
  unfold wr okS
  by_cases hb : bigB x = true
  · rw [if_pos hb, hb]; simp
  rw [if_neg hb]
  have hb' : bigB x = false := by simpa using hb
  have hz : x.2.2.2.1 ≤ 16 := by
    unfold bigB at hb'
    simp only [Bool.or_eq_false_iff, decide_eq_false_iff_not] at hb'
    omega
  rw [orElse_none, orElse_none, orElse_none, orElse_none]
  unfold wM wT wL
  rw [firstF_none_iff, firstF_none_iff, firstF_none_iff]
  have eM : (∀ i, i < x.1.length → fM x i = none) ↔ ∀ m ∈ x.1, matG m := by
    constructor
    · intro h m hm
      obtain ⟨i, hi, rfl⟩ := List.getElem_of_mem hm
      have := h i hi
      unfold fM at this
      rw [List.getElem?_eq_getElem hi, Option.bind_some] at this
      exact matW_none.1 this
    · intro h i hi
      unfold fM
      rw [List.getElem?_eq_getElem hi, Option.bind_some]
      exact matW_none.2 (h _ (List.getElem_mem hi))
  have eT : (∀ i, i < x.2.1.length → fT x i = none) ↔ ∀ t ∈ x.2.1, triG x.1.length t := by
    constructor
    · intro h m hm
      obtain ⟨i, hi, rfl⟩ := List.getElem_of_mem hm
      have := h i hi
      unfold fT at this
      rw [List.getElem?_eq_getElem hi, Option.bind_some] at this
      exact triW_none.1 this
    · intro h i hi
      unfold fT
      rw [List.getElem?_eq_getElem hi, Option.bind_some]
      exact triW_none.2 (h _ (List.getElem_mem hi))
  have eL : (∀ i, i < x.2.2.1.length → fL x i = none) ↔ (∀ l ∈ x.2.2.1, litG x.2.1.length l) ∧ (x.2.2.1.Pairwise fun a b => a.1 ≠ b.1) := by
    rw [List.pairwise_iff_getElem]
    constructor
    · intro h
      have h' : ∀ i (hi : i < x.2.2.1.length), litG x.2.1.length x.2.2.1[i] ∧ ∀ y ∈ x.2.2.1.take i, y.1 ≠ x.2.2.1[i].1 := by
        intro i hi
        have := h i hi
        unfold fL at this
        rw [List.getElem?_eq_getElem hi, Option.bind_some] at this
        exact litW_none.1 this
      refine ⟨fun m hm => ?_, fun i j hi hj hij => ?_⟩
      · obtain ⟨i, hi, rfl⟩ := List.getElem_of_mem hm
        exact (h' i hi).1
      · refine (h' j hj).2 x.2.2.1[i] ?_
        rw [List.mem_take_iff_getElem]
        exact ⟨i, by omega, rfl⟩
    · rintro ⟨h1, h2⟩ i hi
      unfold fL
      rw [List.getElem?_eq_getElem hi, Option.bind_some]
      refine litW_none.2 ⟨h1 _ (List.getElem_mem hi), fun y hy => ?_⟩
      rw [List.mem_take_iff_getElem] at hy
      obtain ⟨j, hj, rfl⟩ := hy
      exact h2 j i (by omega) hi (by omega)
  have eZ : wZ x = none ↔ (0 ≤ x.2.2.2.1 ∧ (x.2.2.2.2.1.length : Int) = 8 * x.2.2.2.1) ∧ (∀ c ∈ x.2.2.2.2.1, in3 c 0 67108863 = true) := by
    unfold wZ
    by_cases h1 : x.2.2.2.1 < 0
    · rw [if_pos (decide_eq_true h1)]
      constructor
      · intro h; cases h
      · rintro ⟨⟨h, _⟩, _⟩; omega
    rw [if_neg (by simpa using h1), W_id (by omega) (by omega)]
    by_cases h2 : (x.2.2.2.2.1.length : Int) = 8 * x.2.2.2.1
    · rw [if_neg (by simpa using h2)]
      unfold wC
      rw [firstF_none_iff]
      constructor
      · intro h
        refine ⟨⟨by omega, h2⟩, fun m hm => ?_⟩
        obtain ⟨i, hi, rfl⟩ := List.getElem_of_mem hm
        have := h i hi
        unfold fC at this
        rw [List.getElem?_eq_getElem hi, Option.bind_some] at this
        exact celW_none.1 this
      · rintro ⟨_, h⟩ i hi
        unfold fC
        rw [List.getElem?_eq_getElem hi, Option.bind_some]
        exact celW_none.2 (h _ (List.getElem_mem hi))
    · rw [if_pos (by simpa using h2)]
      constructor
      · intro h; cases h
      · rintro ⟨⟨_, h⟩, _⟩; exact absurd h h2
  rw [eM, eT, eL, eZ]
  simp only [hb', true_and, and_assoc]

/-! ### The same scene -/
abbrev ZS : ScT := ([], [], [], 0, [], ((0, 0, 0), (0, 0, 0), (0, 0, 0), 0, 0, 0), 0, 0)

theorem Same_refl (x : ScT) (h : lightB x) : ref22_Same (x, x) = some true := by
  obtain ⟨h1, h2, h3, h4⟩ := h
  have e0 : ref22_Same.l0 (x, x, false, 0, ()) = some (.exit 0, x, x, false, (x.1.length : Int), ()) := by
    have := iter_count (t := ref22_Same.t0) (fun k => (x, x, false, (k : Int), ())) (e := .exit 0) (z := (x, x, false, (x.1.length : Int), ())) (by simp) x.1.length 0 rounds
      (fun k _ hk => by
        have hk : k < x.1.length := by omega
        unfold ref22_Same.t0
        simp only [tr_ite, tr_ret, tr_opt, decide_eq_true_eq]
        rw [if_pos (by omega), lget_nat _ hk, Option.bind_some, Option.bind_some, if_neg (by simp), W_succ (by omega)])
      (by
        unfold ref22_Same.t0
        simp only [tr_ite, tr_ret, decide_eq_true_eq]
        rw [if_neg (by omega), Nat.zero_add])
      (rounds_gt (by omega))
    exact this
  have e2 : ref22_Same.l2 (x, x, false, 0, ()) = some (.exit 2, x, x, false, (x.2.1.length : Int), ()) := by
    have := iter_count (t := ref22_Same.t2) (fun k => (x, x, false, (k : Int), ())) (e := .exit 2) (z := (x, x, false, (x.2.1.length : Int), ())) (by simp) x.2.1.length 0 rounds
      (fun k _ hk => by
        have hk : k < x.2.1.length := by omega
        unfold ref22_Same.t2
        simp only [tr_ite, tr_ret, tr_opt, decide_eq_true_eq]
        rw [if_pos (by omega), lget_nat _ hk, Option.bind_some, Option.bind_some, if_neg (by simp), W_succ (by omega)])
      (by
        unfold ref22_Same.t2
        simp only [tr_ite, tr_ret, decide_eq_true_eq]
        rw [if_neg (by omega), Nat.zero_add])
      (rounds_gt (by omega))
    exact this
  have e4 : ref22_Same.l4 (x, x, false, 0, ()) = some (.exit 4, x, x, false, (x.2.2.1.length : Int), ()) := by
    have := iter_count (t := ref22_Same.t4) (fun k => (x, x, false, (k : Int), ())) (e := .exit 4) (z := (x, x, false, (x.2.2.1.length : Int), ())) (by simp) x.2.2.1.length 0 rounds
      (fun k _ hk => by
        have hk : k < x.2.2.1.length := by omega
        unfold ref22_Same.t4
        simp only [tr_ite, tr_ret, tr_opt, decide_eq_true_eq]
        rw [if_pos (by omega), lget_nat _ hk, Option.bind_some, Option.bind_some, if_neg (by simp), W_succ (by omega)])
      (by
        unfold ref22_Same.t4
        simp only [tr_ite, tr_ret, decide_eq_true_eq]
        rw [if_neg (by omega), Nat.zero_add])
      (rounds_gt (by omega))
    exact this
  have e6 : ref22_Same.l6 (x, x, false, 0, ()) = some (.exit 6, x, x, false, (x.2.2.2.2.1.length : Int), ()) := by
    have := iter_count (t := ref22_Same.t6) (fun k => (x, x, false, (k : Int), ())) (e := .exit 6) (z := (x, x, false, (x.2.2.2.2.1.length : Int), ())) (by simp) x.2.2.2.2.1.length 0 rounds
      (fun k _ hk => by
        have hk : k < x.2.2.2.2.1.length := by omega
        unfold ref22_Same.t6
        simp only [tr_ite, tr_ret, tr_opt, decide_eq_true_eq]
        rw [if_pos (by omega), lget_nat _ hk, Option.bind_some, Option.bind_some, if_neg (by simp), W_succ (by omega)])
      (by
        unfold ref22_Same.t6
        simp only [tr_ite, tr_ret, decide_eq_true_eq]
        rw [if_neg (by omega), Nat.zero_add])
      (rounds_gt (by omega))
    exact this
  unfold ref22_Same ref22_Same.t
  dsimp only
  rw [tr_ite, if_neg (by simp), tr_opt, e0, Option.bind_some]
  dsimp only
  rw [tr_ite, if_pos (show exEq (.exit 0) (.exit 0) = true from rfl), tr_opt, e2, Option.bind_some]
  dsimp only
  rw [tr_ite, if_pos (show exEq (.exit 2) (.exit 2) = true from rfl), tr_opt, e4, Option.bind_some]
  dsimp only
  rw [tr_ite, if_pos (show exEq (.exit 4) (.exit 4) = true from rfl), tr_opt, e6, Option.bind_some]
  dsimp only
  rw [tr_ite, if_pos (show exEq (.exit 6) (.exit 6) = true from rfl), tr_ret]

theorem lightZ : lightB ZS := by unfold lightB; simp
theorem map_takeS {α β : Type} (f : α → β) (l : List α) {k : Nat} (h : k < l.length) : (l.take k).map f ++ [f l[k]] = (l.take (k + 1)).map f := by
  rw [List.take_succ_eq_append_getElem h, List.map_append]; rfl
theorem take_snoc {α : Type} (l : List α) (v : α) : List.take (l.length + 1) (l ++ [v]) = l ++ [v] := List.take_of_length_le (by simp)
theorem small60 {n c : Nat} (h : n ≤ 900) (hc : c ≤ 1000) : n * c ≤ most := by
  have : n * c ≤ 900 * 1000 := Nat.mul_le_mul h hc
  unfold most; omega
theorem triG_up {n m : Int} {t : TriT} (h : triG n t) (hn : n ≤ m) : triG m t := ⟨h.1, by have := h.2.1; omega, h.2.2⟩
theorem litG_up {n m : Int} {t : LitT} (h : litG n t) (hn : n ≤ m) : litG m t := ⟨h.1, by have := h.2.1; omega, h.2.2⟩
theorem cam_same {x y : ScT} (h : x.2.2.2.2.2 = y.2.2.2.2.2) : camW x = camW y := by
  unfold camW
  rw [h]
theorem bigB_false {x : ScT} : bigB x = false ↔ x.1.length ≤ 32 ∧ x.2.1.length ≤ 512 ∧ x.2.2.1.length ≤ 512 ∧ x.2.2.2.1 ≤ 16 := by
  unfold bigB
  simp only [Bool.or_eq_false_iff, decide_eq_false_iff_not]
  omega
theorem mkW_zero {o : Option W3} (h : ∀ w, o = some w → codeOK w) : ((mkW o).1 == 0 && ((mkW o).2.1 == 0 && (mkW o).2.2 == 0)) = o.isNone := by
  cases o with
  | none => rfl
  | some w => exact (h w rfl).zero
theorem lightOf {x : ScT} (h : x.1.length ≤ 40 ∧ x.2.1.length ≤ 60 ∧ x.2.2.1.length ≤ 60 ∧ x.2.2.2.2.1.length ≤ 200) : lightB x := ⟨by omega, by omega, by omega, by omega⟩
theorem part_len {α : Type} (f : α → α) (l : List α) (k : Nat) : ((l.take k).map f ++ l.drop k).length = l.length := by
  rw [List.length_append, List.length_map, List.length_take, List.length_drop]; omega
theorem part_get {α : Type} (f : α → α) (l : List α) {k : Nat} (h : k < l.length) : ((l.take k).map f ++ l.drop k)[0 + Int.toNat (k : Int)]? = some l[k] := by
  have e : ((l.take k).map f).length = k := by rw [List.length_map, List.length_take]; omega
  rw [Int.toNat_natCast, Nat.zero_add, List.getElem?_append_right (by omega), e, Nat.sub_self, List.drop_eq_getElem_cons h]
  rfl
theorem part_set {α : Type} (f : α → α) (l : List α) {k : Nat} (h : k < l.length) : ((l.take k).map f ++ l.drop k).set (0 + Int.toNat (k : Int)) (f l[k]) = (l.take (k + 1)).map f ++ l.drop (k + 1) := by
  have e : ((l.take k).map f).length = k := by rw [List.length_map, List.length_take]; omega
  rw [Int.toNat_natCast, Nat.zero_add, List.set_append_right _ _ (by omega), e, Nat.sub_self, List.drop_eq_getElem_cons h, ← map_takeS f l h, List.append_assoc]
  rfl
end Go.Proofs.Pen

namespace Go.Proofs.Pen
open Go Go.Proofs
noncomputable def law22_Light.t (x : ((List ((Int × Int × Int) × (Int × Int × Int) × Int)) × (List ((Int × Int × Int) × (Int × Int × Int) × (Int × Int × Int) × Int)) × (List (Int × Int × Int × Int)) × Int × (List (Int × Int × Int)) × ((Int × Int × Int) × (Int × Int × Int) × (Int × Int × Int) × Int × Int × Int) × Int × Int)) : T (Bool) := T.ret (decide ((↑(List.length x.1) : Int) ≤ (40 : Int)) && decide ((↑(List.length x.2.1) : Int) ≤ (60 : Int)) && decide ((↑(List.length x.2.2.1) : Int) ≤ (60 : Int)) && decide ((↑(List.length x.2.2.2.2.1) : Int) ≤ (200 : Int)))
noncomputable def law22_Light.q : List AV → T AV := entry [TScn] (outR [.bool]) law22_Light.t
theorem law22_Light.ok : FnOK Tryd.prog 7 law22_Light.q :=
  entry_in (ps := [TScn]) (rs := [.bool]) (F := ({ quiet := Xs, deep := noDeep } : Fns)) (D := D0) (S := tabS []) (t := law22_Light.t) mixed Xok (deep_none _) Tryd.func7 (by kernel_rfl) (sok_fn trivial) (by kernel_rfl) (fun x => by kernel_rfl)
end Go.Proofs.Pen

namespace Go.Proofs.Pen
open Go Go.Proofs
noncomputable def law48_small.t (_ : Unit) : T (((List ((Int × Int × Int) × (Int × Int × Int) × Int)) × (List ((Int × Int × Int) × (Int × Int × Int) × (Int × Int × Int) × Int)) × (List (Int × Int × Int × Int)) × Int × (List (Int × Int × Int)) × ((Int × Int × Int) × (Int × Int × Int) × (Int × Int × Int) × Int × Int × Int) × Int × Int)) := T.ret (List.take (2 : Nat) [(((0 : Int), (0 : Int), (0 : Int)), ((0 : Int), (0 : Int), (0 : Int)), (1 : Int)), (((0 : Int), (0 : Int), (0 : Int)), ((0 : Int), (0 : Int), (0 : Int)), (2 : Int))], List.take (2 : Nat) [(((0 : Int), (0 : Int), (0 : Int)), ((1024 : Int), (0 : Int), (0 : Int)), ((0 : Int), (1024 : Int), (0 : Int)), (0 : Int)), (((0 : Int), (0 : Int), (0 : Int)), ((1024 : Int), (0 : Int), (0 : Int)), ((0 : Int), (1024 : Int), (0 : Int)), (0 : Int))], [((1 : Int), (9 : Int), (0 : Int), (0 : Int))], (0 : Int), [], (((0 : Int), (0 : Int), (1024 : Int)), ((0 : Int), (0 : Int), (0 : Int)), ((0 : Int), (1024 : Int), (0 : Int)), (1024 : Int), (0 : Int), (1024 : Int)), (1 : Int), (512 : Int))
noncomputable def law48_small.q : List AV → T AV := entry [] (outR [TScn]) law48_small.t
theorem law48_small.ok : FnOK Tryd.prog 25 law48_small.q :=
  entry_in (ps := []) (rs := [TScn]) (F := ({ quiet := Xs, deep := noDeep } : Fns)) (D := D0) (S := tabS []) (t := law48_small.t) mixed Xok (deep_none _) Tryd.func25 (by kernel_rfl) (sok_fn trivial) (by kernel_rfl) (fun x => by kernel_rfl)
end Go.Proofs.Pen

namespace Go.Proofs.Pen
open Go Go.Proofs
set_option maxRecDepth 100000
noncomputable def law48_awake.t (_ : Unit) : T (Bool) := T.ret true
noncomputable def law48_awake.q : List AV → T AV := entry [] (outR [.bool]) fun _ => .ret (true : dens [.bool])
theorem law48_awake.ok : FnOK Tryd.prog 8 law48_awake.q := peT_entry mixed (quiet_ext (quiet_ext Xok scene_Check.ok) law48_small.ok) [13, 26, 25] tbOk 100 20 Tryd.func8 (by kernel_rfl) (by kernel_rfl)
end Go.Proofs.Pen

namespace Go.Proofs.Pen
open Go Go.Proofs
noncomputable def merge_Dim_1.t (x : (Int × Int × Int) × Int × Int) : T ((Int × Int × Int)) := T.ite (x.2.2 == (0 : Int)) T.fail (T.ite (x.2.2 == (0 : Int)) T.fail (T.ite (x.2.2 == (0 : Int)) T.fail (T.ret (W ((W (x.1.1 * x.2.1)).tdiv x.2.2), W ((W (x.1.2.1 * x.2.1)).tdiv x.2.2), W ((W (x.1.2.2 * x.2.1)).tdiv x.2.2)))))
noncomputable def merge_Dim_1 (x : (Int × Int × Int) × Int × Int) : Option ((Int × Int × Int)) := (merge_Dim_1.t x).run
noncomputable def merge_Dim_1.q : List AV → T AV := entry [TP, (.ptr TI), (.ptr TI)] (outR [TP]) fun x => .opt (merge_Dim_1 x) .ret
theorem merge_Dim_1.ok : FnOK Tryd.prog 42 merge_Dim_1.q :=
  entry_call (ps := [TP, (.ptr TI), (.ptr TI)]) (rs := [TP]) (F := ({ quiet := Xs, deep := noDeep } : Fns)) (D := D0) (S := tabS []) (t := merge_Dim_1.t) mixed Xok (deep_none _) Tryd.func42 (by kernel_rfl) (sok_fn trivial) (by kernel_rfl) (fun x => by kernel_rfl)
end Go.Proofs.Pen

namespace Go.Proofs.Pen
open Go Go.Proofs
noncomputable def merge_Dim.deeps : Deeps := { D := [28, 30, 49, 50, 51], C := [], frz := false, S := fun _ _ => noS }
theorem merge_Dim.deepsOk : LoopsOK Tryd.prog merge_Dim.deeps.S := (loops_none _)
def merge_Dim.L0 : List (Nat × Lay) := [(4, .box TI), (5, .box TI), (6, .box TScn), (9, .clo 42 [0, 1]), (10, .obx [.own TMatD, .own TTriD, .own TLitD, .dat TI, .own TP, .dat TCam, .dat TI, .dat TI]), (42, .al 6 TLitD), (43, .val TI), (44, .val TI)]
noncomputable def merge_Dim.t0 (x : Int × Int × ((List ((Int × Int × Int) × (Int × Int × Int) × Int)) × (List ((Int × Int × Int) × (Int × Int × Int) × (Int × Int × Int) × Int)) × (List (Int × Int × Int × Int)) × Int × (List (Int × Int × Int)) × ((Int × Int × Int) × (Int × Int × Int) × (Int × Int × Int) × Int × Int × Int) × Int × Int) × (List ((Int × Int × Int) × (Int × Int × Int) × Int) × List ((Int × Int × Int) × (Int × Int × Int) × (Int × Int × Int) × Int) × List (Int × Int × Int × Int) × Int × List (Int × Int × Int) × ((Int × Int × Int) × (Int × Int × Int) × (Int × Int × Int) × Int × Int × Int) × Int × Int × Unit) × Nat × Int × Int × Unit) : T (Ex × Int × Int × ((List ((Int × Int × Int) × (Int × Int × Int) × Int)) × (List ((Int × Int × Int) × (Int × Int × Int) × (Int × Int × Int) × Int)) × (List (Int × Int × Int × Int)) × Int × (List (Int × Int × Int)) × ((Int × Int × Int) × (Int × Int × Int) × (Int × Int × Int) × Int × Int × Int) × Int × Int) × (List ((Int × Int × Int) × (Int × Int × Int) × Int) × List ((Int × Int × Int) × (Int × Int × Int) × (Int × Int × Int) × Int) × List (Int × Int × Int × Int) × Int × List (Int × Int × Int) × ((Int × Int × Int) × (Int × Int × Int) × (Int × Int × Int) × Int × Int × Int) × Int × Int × Unit) × Nat × Int × Int × Unit) := T.ite (decide (x.2.2.2.2.2.2.1 < x.2.2.2.2.2.1)) (T.ite (decide ((0 : Int) ≤ x.2.2.2.2.2.2.1) && decide (x.2.2.2.2.2.2.1 < (↑x.2.2.2.2.1 : Int))) (T.opt x.2.2.2.1.2.2.1[(0 : Nat) + Int.toNat x.2.2.2.2.2.2.1]? fun y => T.opt (merge_Dim_1 (y.2, x.1, x.2.1)) fun y => T.ite (decide ((0 : Int) ≤ x.2.2.2.2.2.2.1) && decide (x.2.2.2.2.2.2.1 < (↑x.2.2.2.1.2.2.1.length : Int))) (T.opt x.2.2.2.1.2.2.1[(0 : Nat) + Int.toNat x.2.2.2.2.2.2.1]? fun y_1 => T.ite (alD (encB merge_Dim.L0 (x.1, x.2.1, x.2.2.1, (List.take x.2.2.2.1.1.length x.2.2.2.1.1, List.take x.2.2.2.1.2.1.length x.2.2.2.1.2.1, List.take x.2.2.2.1.2.2.1.length (x.2.2.2.1.2.2.1.set ((0 : Nat) + Int.toNat x.2.2.2.2.2.2.1) (y_1.fst, y)), x.2.2.2.1.2.2.2.1, List.take x.2.2.2.1.2.2.2.2.1.length x.2.2.2.1.2.2.2.2.1, x.2.2.2.1.2.2.2.2.2.1, x.2.2.2.1.2.2.2.2.2.2.1, x.2.2.2.1.2.2.2.2.2.2.2.1, ()), x.2.2.2.2.1, x.2.2.2.2.2.1, W (x.2.2.2.2.2.2.1 + (1 : Int)), ())) merge_Dim.L0 (x.1, x.2.1, x.2.2.1, (List.take x.2.2.2.1.1.length x.2.2.2.1.1, List.take x.2.2.2.1.2.1.length x.2.2.2.1.2.1, List.take x.2.2.2.1.2.2.1.length (x.2.2.2.1.2.2.1.set ((0 : Nat) + Int.toNat x.2.2.2.2.2.2.1) (y_1.fst, y)), x.2.2.2.1.2.2.2.1, List.take x.2.2.2.1.2.2.2.2.1.length x.2.2.2.1.2.2.2.2.1, x.2.2.2.1.2.2.2.2.2.1, x.2.2.2.1.2.2.2.2.2.2.1, x.2.2.2.1.2.2.2.2.2.2.2.1, ()), x.2.2.2.2.1, x.2.2.2.2.2.1, W (x.2.2.2.2.2.2.1 + (1 : Int)), ())) (T.ret (Ex.normal, x.1, x.2.1, x.2.2.1, (List.take x.2.2.2.1.1.length x.2.2.2.1.1, List.take x.2.2.2.1.2.1.length x.2.2.2.1.2.1, List.take x.2.2.2.1.2.2.1.length (x.2.2.2.1.2.2.1.set ((0 : Nat) + Int.toNat x.2.2.2.2.2.2.1) (y_1.fst, y)), x.2.2.2.1.2.2.2.1, List.take x.2.2.2.1.2.2.2.2.1.length x.2.2.2.1.2.2.2.2.1, x.2.2.2.1.2.2.2.2.2.1, x.2.2.2.1.2.2.2.2.2.2.1, x.2.2.2.1.2.2.2.2.2.2.2.1, ()), x.2.2.2.2.1, x.2.2.2.2.2.1, W (x.2.2.2.2.2.2.1 + (1 : Int)), ())) T.fail) T.fail) T.fail) (T.ite (alD (encB merge_Dim.L0 (x.1, x.2.1, x.2.2.1, (List.take x.2.2.2.1.1.length x.2.2.2.1.1, List.take x.2.2.2.1.2.1.length x.2.2.2.1.2.1, List.take x.2.2.2.1.2.2.1.length x.2.2.2.1.2.2.1, x.2.2.2.1.2.2.2.1, List.take x.2.2.2.1.2.2.2.2.1.length x.2.2.2.1.2.2.2.2.1, x.2.2.2.1.2.2.2.2.2.1, x.2.2.2.1.2.2.2.2.2.2.1, x.2.2.2.1.2.2.2.2.2.2.2.1, ()), x.2.2.2.2.1, x.2.2.2.2.2.1, x.2.2.2.2.2.2.1, ())) merge_Dim.L0 (x.1, x.2.1, x.2.2.1, (List.take x.2.2.2.1.1.length x.2.2.2.1.1, List.take x.2.2.2.1.2.1.length x.2.2.2.1.2.1, List.take x.2.2.2.1.2.2.1.length x.2.2.2.1.2.2.1, x.2.2.2.1.2.2.2.1, List.take x.2.2.2.1.2.2.2.2.1.length x.2.2.2.1.2.2.2.2.1, x.2.2.2.1.2.2.2.2.2.1, x.2.2.2.1.2.2.2.2.2.2.1, x.2.2.2.1.2.2.2.2.2.2.2.1, ()), x.2.2.2.2.1, x.2.2.2.2.2.1, x.2.2.2.2.2.2.1, ())) (T.ret (Ex.exit (0 : Nat), x.1, x.2.1, x.2.2.1, (List.take x.2.2.2.1.1.length x.2.2.2.1.1, List.take x.2.2.2.1.2.1.length x.2.2.2.1.2.1, List.take x.2.2.2.1.2.2.1.length x.2.2.2.1.2.2.1, x.2.2.2.1.2.2.2.1, List.take x.2.2.2.1.2.2.2.2.1.length x.2.2.2.1.2.2.2.2.1, x.2.2.2.1.2.2.2.2.2.1, x.2.2.2.1.2.2.2.2.2.2.1, x.2.2.2.1.2.2.2.2.2.2.2.1, ()), x.2.2.2.2.1, x.2.2.2.2.2.1, x.2.2.2.2.2.2.1, ())) T.fail)
noncomputable def merge_Dim.l0 (x : Int × Int × ((List ((Int × Int × Int) × (Int × Int × Int) × Int)) × (List ((Int × Int × Int) × (Int × Int × Int) × (Int × Int × Int) × Int)) × (List (Int × Int × Int × Int)) × Int × (List (Int × Int × Int)) × ((Int × Int × Int) × (Int × Int × Int) × (Int × Int × Int) × Int × Int × Int) × Int × Int) × (List ((Int × Int × Int) × (Int × Int × Int) × Int) × List ((Int × Int × Int) × (Int × Int × Int) × (Int × Int × Int) × Int) × List (Int × Int × Int × Int) × Int × List (Int × Int × Int) × ((Int × Int × Int) × (Int × Int × Int) × (Int × Int × Int) × Int × Int × Int) × Int × Int × Unit) × Nat × Int × Int × Unit) : Option (Ex × Int × Int × ((List ((Int × Int × Int) × (Int × Int × Int) × Int)) × (List ((Int × Int × Int) × (Int × Int × Int) × (Int × Int × Int) × Int)) × (List (Int × Int × Int × Int)) × Int × (List (Int × Int × Int)) × ((Int × Int × Int) × (Int × Int × Int) × (Int × Int × Int) × Int × Int × Int) × Int × Int) × (List ((Int × Int × Int) × (Int × Int × Int) × Int) × List ((Int × Int × Int) × (Int × Int × Int) × (Int × Int × Int) × Int) × List (Int × Int × Int × Int) × Int × List (Int × Int × Int) × ((Int × Int × Int) × (Int × Int × Int) × (Int × Int × Int) × Int × Int × Int) × Int × Int × Unit) × Nat × Int × Int × Unit) := (iterT merge_Dim.t0 rounds x).run
theorem merge_Dim.k0 : bodies 0 (lp Tryd.f20 []) = [.loop (loopIn 0 (lp Tryd.f20 []))] ∧ WP Tryd.prog 0 (.block 0 (.loop (loopIn 0 (lp Tryd.f20 [])))) (loopS merge_Dim.L0 76 0 [.exit 0] merge_Dim.l0) :=
  loop_tree (L := merge_Dim.L0) (F := (dpT Tryd.prog (ext (ext (ext (ext (ext Xs 26 scene_Check.q) 27 fault_New.q) 42 merge_Dim_1.q) 68 scene_lights_1.q) 72 scene_within_1.q) merge_Dim.deeps tb 100 8)) (D := (inL merge_Dim.deeps.D)) (tab := []) (t := merge_Dim.t0) mixed (dpT_ok mixed (quiet_ext (quiet_ext (quiet_ext (quiet_ext (quiet_ext Xok scene_Check.ok) fault_New.ok) merge_Dim_1.ok) scene_lights_1.ok) scene_within_1.ok) merge_Dim.deepsOk tbOk 100 8).1 (dpT_ok mixed (quiet_ext (quiet_ext (quiet_ext (quiet_ext (quiet_ext Xok scene_Check.ok) fault_New.ok) merge_Dim_1.ok) scene_lights_1.ok) scene_within_1.ok) merge_Dim.deepsOk tbOk 100 8).2 (fun _ => rfl) (by kernel_rfl) (by kernel_rfl) trivial (fun x => by kernel_rfl)
def merge_Dim.L2 : List (Nat × Lay) := [(4, .box TI), (5, .box TI), (6, .box TScn), (9, .clo 42 [0, 1]), (10, .obx [.own TMatD, .own TTriD, .own TLitD, .dat TI, .own TP, .dat TCam, .dat TI, .dat TI]), (60, .al 7 TP), (61, .val TI), (62, .val TI)]
noncomputable def merge_Dim.t2 (x : Int × Int × ((List ((Int × Int × Int) × (Int × Int × Int) × Int)) × (List ((Int × Int × Int) × (Int × Int × Int) × (Int × Int × Int) × Int)) × (List (Int × Int × Int × Int)) × Int × (List (Int × Int × Int)) × ((Int × Int × Int) × (Int × Int × Int) × (Int × Int × Int) × Int × Int × Int) × Int × Int) × (List ((Int × Int × Int) × (Int × Int × Int) × Int) × List ((Int × Int × Int) × (Int × Int × Int) × (Int × Int × Int) × Int) × List (Int × Int × Int × Int) × Int × List (Int × Int × Int) × ((Int × Int × Int) × (Int × Int × Int) × (Int × Int × Int) × Int × Int × Int) × Int × Int × Unit) × Nat × Int × Int × Unit) : T (Ex × Int × Int × ((List ((Int × Int × Int) × (Int × Int × Int) × Int)) × (List ((Int × Int × Int) × (Int × Int × Int) × (Int × Int × Int) × Int)) × (List (Int × Int × Int × Int)) × Int × (List (Int × Int × Int)) × ((Int × Int × Int) × (Int × Int × Int) × (Int × Int × Int) × Int × Int × Int) × Int × Int) × (List ((Int × Int × Int) × (Int × Int × Int) × Int) × List ((Int × Int × Int) × (Int × Int × Int) × (Int × Int × Int) × Int) × List (Int × Int × Int × Int) × Int × List (Int × Int × Int) × ((Int × Int × Int) × (Int × Int × Int) × (Int × Int × Int) × Int × Int × Int) × Int × Int × Unit) × Nat × Int × Int × Unit) := T.ite (decide (x.2.2.2.2.2.2.1 < x.2.2.2.2.2.1)) (T.ite (decide ((0 : Int) ≤ x.2.2.2.2.2.2.1) && decide (x.2.2.2.2.2.2.1 < (↑x.2.2.2.2.1 : Int))) (T.opt x.2.2.2.1.2.2.2.2.1[(0 : Nat) + Int.toNat x.2.2.2.2.2.2.1]? fun y => T.opt (merge_Dim_1 (y, x.1, x.2.1)) fun y => T.ite (decide ((0 : Int) ≤ x.2.2.2.2.2.2.1) && decide (x.2.2.2.2.2.2.1 < (↑x.2.2.2.1.2.2.2.2.1.length : Int))) (T.opt x.2.2.2.1.2.2.2.2.1[(0 : Nat) + Int.toNat x.2.2.2.2.2.2.1]? fun y_1 => T.ite (alD (encB merge_Dim.L2 (x.1, x.2.1, x.2.2.1, (List.take x.2.2.2.1.1.length x.2.2.2.1.1, List.take x.2.2.2.1.2.1.length x.2.2.2.1.2.1, List.take x.2.2.2.1.2.2.1.length x.2.2.2.1.2.2.1, x.2.2.2.1.2.2.2.1, List.take x.2.2.2.1.2.2.2.2.1.length (x.2.2.2.1.2.2.2.2.1.set ((0 : Nat) + Int.toNat x.2.2.2.2.2.2.1) y), x.2.2.2.1.2.2.2.2.2.1, x.2.2.2.1.2.2.2.2.2.2.1, x.2.2.2.1.2.2.2.2.2.2.2.1, ()), x.2.2.2.2.1, x.2.2.2.2.2.1, W (x.2.2.2.2.2.2.1 + (1 : Int)), ())) merge_Dim.L2 (x.1, x.2.1, x.2.2.1, (List.take x.2.2.2.1.1.length x.2.2.2.1.1, List.take x.2.2.2.1.2.1.length x.2.2.2.1.2.1, List.take x.2.2.2.1.2.2.1.length x.2.2.2.1.2.2.1, x.2.2.2.1.2.2.2.1, List.take x.2.2.2.1.2.2.2.2.1.length (x.2.2.2.1.2.2.2.2.1.set ((0 : Nat) + Int.toNat x.2.2.2.2.2.2.1) y), x.2.2.2.1.2.2.2.2.2.1, x.2.2.2.1.2.2.2.2.2.2.1, x.2.2.2.1.2.2.2.2.2.2.2.1, ()), x.2.2.2.2.1, x.2.2.2.2.2.1, W (x.2.2.2.2.2.2.1 + (1 : Int)), ())) (T.ret (Ex.normal, x.1, x.2.1, x.2.2.1, (List.take x.2.2.2.1.1.length x.2.2.2.1.1, List.take x.2.2.2.1.2.1.length x.2.2.2.1.2.1, List.take x.2.2.2.1.2.2.1.length x.2.2.2.1.2.2.1, x.2.2.2.1.2.2.2.1, List.take x.2.2.2.1.2.2.2.2.1.length (x.2.2.2.1.2.2.2.2.1.set ((0 : Nat) + Int.toNat x.2.2.2.2.2.2.1) y), x.2.2.2.1.2.2.2.2.2.1, x.2.2.2.1.2.2.2.2.2.2.1, x.2.2.2.1.2.2.2.2.2.2.2.1, ()), x.2.2.2.2.1, x.2.2.2.2.2.1, W (x.2.2.2.2.2.2.1 + (1 : Int)), ())) T.fail) T.fail) T.fail) (T.ite (alD (encB merge_Dim.L2 (x.1, x.2.1, x.2.2.1, (List.take x.2.2.2.1.1.length x.2.2.2.1.1, List.take x.2.2.2.1.2.1.length x.2.2.2.1.2.1, List.take x.2.2.2.1.2.2.1.length x.2.2.2.1.2.2.1, x.2.2.2.1.2.2.2.1, List.take x.2.2.2.1.2.2.2.2.1.length x.2.2.2.1.2.2.2.2.1, x.2.2.2.1.2.2.2.2.2.1, x.2.2.2.1.2.2.2.2.2.2.1, x.2.2.2.1.2.2.2.2.2.2.2.1, ()), x.2.2.2.2.1, x.2.2.2.2.2.1, x.2.2.2.2.2.2.1, ())) merge_Dim.L2 (x.1, x.2.1, x.2.2.1, (List.take x.2.2.2.1.1.length x.2.2.2.1.1, List.take x.2.2.2.1.2.1.length x.2.2.2.1.2.1, List.take x.2.2.2.1.2.2.1.length x.2.2.2.1.2.2.1, x.2.2.2.1.2.2.2.1, List.take x.2.2.2.1.2.2.2.2.1.length x.2.2.2.1.2.2.2.2.1, x.2.2.2.1.2.2.2.2.2.1, x.2.2.2.1.2.2.2.2.2.2.1, x.2.2.2.1.2.2.2.2.2.2.2.1, ()), x.2.2.2.2.1, x.2.2.2.2.2.1, x.2.2.2.2.2.2.1, ())) (T.ret (Ex.exit (2 : Nat), x.1, x.2.1, x.2.2.1, (List.take x.2.2.2.1.1.length x.2.2.2.1.1, List.take x.2.2.2.1.2.1.length x.2.2.2.1.2.1, List.take x.2.2.2.1.2.2.1.length x.2.2.2.1.2.2.1, x.2.2.2.1.2.2.2.1, List.take x.2.2.2.1.2.2.2.2.1.length x.2.2.2.1.2.2.2.2.1, x.2.2.2.1.2.2.2.2.2.1, x.2.2.2.1.2.2.2.2.2.2.1, x.2.2.2.1.2.2.2.2.2.2.2.1, ()), x.2.2.2.2.1, x.2.2.2.2.2.1, x.2.2.2.2.2.2.1, ())) T.fail)
noncomputable def merge_Dim.l2 (x : Int × Int × ((List ((Int × Int × Int) × (Int × Int × Int) × Int)) × (List ((Int × Int × Int) × (Int × Int × Int) × (Int × Int × Int) × Int)) × (List (Int × Int × Int × Int)) × Int × (List (Int × Int × Int)) × ((Int × Int × Int) × (Int × Int × Int) × (Int × Int × Int) × Int × Int × Int) × Int × Int) × (List ((Int × Int × Int) × (Int × Int × Int) × Int) × List ((Int × Int × Int) × (Int × Int × Int) × (Int × Int × Int) × Int) × List (Int × Int × Int × Int) × Int × List (Int × Int × Int) × ((Int × Int × Int) × (Int × Int × Int) × (Int × Int × Int) × Int × Int × Int) × Int × Int × Unit) × Nat × Int × Int × Unit) : Option (Ex × Int × Int × ((List ((Int × Int × Int) × (Int × Int × Int) × Int)) × (List ((Int × Int × Int) × (Int × Int × Int) × (Int × Int × Int) × Int)) × (List (Int × Int × Int × Int)) × Int × (List (Int × Int × Int)) × ((Int × Int × Int) × (Int × Int × Int) × (Int × Int × Int) × Int × Int × Int) × Int × Int) × (List ((Int × Int × Int) × (Int × Int × Int) × Int) × List ((Int × Int × Int) × (Int × Int × Int) × (Int × Int × Int) × Int) × List (Int × Int × Int × Int) × Int × List (Int × Int × Int) × ((Int × Int × Int) × (Int × Int × Int) × (Int × Int × Int) × Int × Int × Int) × Int × Int × Unit) × Nat × Int × Int × Unit) := (iterT merge_Dim.t2 rounds x).run
theorem merge_Dim.k2 : bodies 2 (lp Tryd.f20 []) = [.loop (loopIn 2 (lp Tryd.f20 []))] ∧ WP Tryd.prog 0 (.block 2 (.loop (loopIn 2 (lp Tryd.f20 [])))) (loopS merge_Dim.L2 76 2 [.exit 2] merge_Dim.l2) :=
  loop_tree (L := merge_Dim.L2) (F := (dpT Tryd.prog (ext (ext (ext (ext (ext Xs 26 scene_Check.q) 27 fault_New.q) 42 merge_Dim_1.q) 68 scene_lights_1.q) 72 scene_within_1.q) merge_Dim.deeps tb 100 8)) (D := (inL merge_Dim.deeps.D)) (tab := []) (t := merge_Dim.t2) mixed (dpT_ok mixed (quiet_ext (quiet_ext (quiet_ext (quiet_ext (quiet_ext Xok scene_Check.ok) fault_New.ok) merge_Dim_1.ok) scene_lights_1.ok) scene_within_1.ok) merge_Dim.deepsOk tbOk 100 8).1 (dpT_ok mixed (quiet_ext (quiet_ext (quiet_ext (quiet_ext (quiet_ext Xok scene_Check.ok) fault_New.ok) merge_Dim_1.ok) scene_lights_1.ok) scene_within_1.ok) merge_Dim.deepsOk tbOk 100 8).2 (fun _ => rfl) (by kernel_rfl) (by kernel_rfl) trivial (fun x => by kernel_rfl)
noncomputable def merge_Dim.t (x : ((List ((Int × Int × Int) × (Int × Int × Int) × Int)) × (List ((Int × Int × Int) × (Int × Int × Int) × (Int × Int × Int) × Int)) × (List (Int × Int × Int × Int)) × Int × (List (Int × Int × Int)) × ((Int × Int × Int) × (Int × Int × Int) × (Int × Int × Int) × Int × Int × Int) × Int × Int) × Int × Int) : T (((List ((Int × Int × Int) × (Int × Int × Int) × Int)) × (List ((Int × Int × Int) × (Int × Int × Int) × (Int × Int × Int) × Int)) × (List (Int × Int × Int × Int)) × Int × (List (Int × Int × Int)) × ((Int × Int × Int) × (Int × Int × Int) × (Int × Int × Int) × Int × Int × Int) × Int × Int) × ErrD) := T.opt (scene_Check x.1) fun y => T.ite (!y.isNil) (T.ret (([], [], [], (0 : Int), [], (((0 : Int), (0 : Int), (0 : Int)), ((0 : Int), (0 : Int), (0 : Int)), ((0 : Int), (0 : Int), (0 : Int)), (0 : Int), (0 : Int), (0 : Int)), (0 : Int), (0 : Int)), y)) (T.ite (decide (x.2.2 < (1 : Int)) || decide (x.2.2 > (1048576 : Int)) || decide (x.2.1 < (0 : Int)) || decide (x.2.1 > x.2.2)) (T.opt (fault_New ((3 : Int), (0 : Int))) fun y => T.ret (([], [], [], (0 : Int), [], (((0 : Int), (0 : Int), (0 : Int)), ((0 : Int), (0 : Int), (0 : Int)), ((0 : Int), (0 : Int), (0 : Int)), (0 : Int), (0 : Int), (0 : Int)), (0 : Int), (0 : Int)), y)) (T.ite (decide (List.length x.1.1 * (56 : Nat) ≤ most)) (T.ite (decide (List.length x.1.2.1 * (80 : Nat) ≤ most)) (T.ite (decide (List.length x.1.2.2.1 * (32 : Nat) ≤ most)) (T.ite (decide (List.length x.1.2.2.2.2.1 * (24 : Nat) ≤ most)) (T.ite (alD (encB merge_Dim.L0 (x.2.1, x.2.2, ([], [], [], (0 : Int), [], (((0 : Int), (0 : Int), (0 : Int)), ((0 : Int), (0 : Int), (0 : Int)), ((0 : Int), (0 : Int), (0 : Int)), (0 : Int), (0 : Int), (0 : Int)), (0 : Int), (0 : Int)), (List.take (List.length x.1.1) x.1.1, List.take (List.length x.1.2.1) x.1.2.1, List.take (List.length x.1.2.2.1) x.1.2.2.1, x.1.2.2.2.1, List.take (List.length x.1.2.2.2.2.1) x.1.2.2.2.2.1, x.1.2.2.2.2.2.1, x.1.2.2.2.2.2.2.1, x.1.2.2.2.2.2.2.2, ()), List.length x.1.2.2.1, (↑(List.length x.1.2.2.1) : Int), (0 : Int), ())) merge_Dim.L0 (x.2.1, x.2.2, ([], [], [], (0 : Int), [], (((0 : Int), (0 : Int), (0 : Int)), ((0 : Int), (0 : Int), (0 : Int)), ((0 : Int), (0 : Int), (0 : Int)), (0 : Int), (0 : Int), (0 : Int)), (0 : Int), (0 : Int)), (List.take (List.length x.1.1) x.1.1, List.take (List.length x.1.2.1) x.1.2.1, List.take (List.length x.1.2.2.1) x.1.2.2.1, x.1.2.2.2.1, List.take (List.length x.1.2.2.2.2.1) x.1.2.2.2.2.1, x.1.2.2.2.2.2.1, x.1.2.2.2.2.2.2.1, x.1.2.2.2.2.2.2.2, ()), List.length x.1.2.2.1, (↑(List.length x.1.2.2.1) : Int), (0 : Int), ())) (T.opt (merge_Dim.l0 (x.2.1, x.2.2, ([], [], [], (0 : Int), [], (((0 : Int), (0 : Int), (0 : Int)), ((0 : Int), (0 : Int), (0 : Int)), ((0 : Int), (0 : Int), (0 : Int)), (0 : Int), (0 : Int), (0 : Int)), (0 : Int), (0 : Int)), (List.take (List.length x.1.1) x.1.1, List.take (List.length x.1.2.1) x.1.2.1, List.take (List.length x.1.2.2.1) x.1.2.2.1, x.1.2.2.2.1, List.take (List.length x.1.2.2.2.2.1) x.1.2.2.2.2.1, x.1.2.2.2.2.2.1, x.1.2.2.2.2.2.2.1, x.1.2.2.2.2.2.2.2, ()), List.length x.1.2.2.1, (↑(List.length x.1.2.2.1) : Int), (0 : Int), ())) fun y => T.ite (exEq y.1 (Ex.exit (0 : Nat))) (T.ite (alD (encB merge_Dim.L2 (y.2.1, y.2.2.1, y.2.2.2.1, (List.take y.2.2.2.2.1.1.length y.2.2.2.2.1.1, List.take y.2.2.2.2.1.2.1.length y.2.2.2.2.1.2.1, List.take y.2.2.2.2.1.2.2.1.length y.2.2.2.2.1.2.2.1, y.2.2.2.2.1.2.2.2.1, List.take y.2.2.2.2.1.2.2.2.2.1.length y.2.2.2.2.1.2.2.2.2.1, y.2.2.2.2.1.2.2.2.2.2.1, y.2.2.2.2.1.2.2.2.2.2.2.1, y.2.2.2.2.1.2.2.2.2.2.2.2.1, ()), y.2.2.2.2.1.2.2.2.2.1.length, (↑y.2.2.2.2.1.2.2.2.2.1.length : Int), (0 : Int), ())) merge_Dim.L2 (y.2.1, y.2.2.1, y.2.2.2.1, (List.take y.2.2.2.2.1.1.length y.2.2.2.2.1.1, List.take y.2.2.2.2.1.2.1.length y.2.2.2.2.1.2.1, List.take y.2.2.2.2.1.2.2.1.length y.2.2.2.2.1.2.2.1, y.2.2.2.2.1.2.2.2.1, List.take y.2.2.2.2.1.2.2.2.2.1.length y.2.2.2.2.1.2.2.2.2.1, y.2.2.2.2.1.2.2.2.2.2.1, y.2.2.2.2.1.2.2.2.2.2.2.1, y.2.2.2.2.1.2.2.2.2.2.2.2.1, ()), y.2.2.2.2.1.2.2.2.2.1.length, (↑y.2.2.2.2.1.2.2.2.2.1.length : Int), (0 : Int), ())) (T.opt (merge_Dim.l2 (y.2.1, y.2.2.1, y.2.2.2.1, (List.take y.2.2.2.2.1.1.length y.2.2.2.2.1.1, List.take y.2.2.2.2.1.2.1.length y.2.2.2.2.1.2.1, List.take y.2.2.2.2.1.2.2.1.length y.2.2.2.2.1.2.2.1, y.2.2.2.2.1.2.2.2.1, List.take y.2.2.2.2.1.2.2.2.2.1.length y.2.2.2.2.1.2.2.2.2.1, y.2.2.2.2.1.2.2.2.2.2.1, y.2.2.2.2.1.2.2.2.2.2.2.1, y.2.2.2.2.1.2.2.2.2.2.2.2.1, ()), y.2.2.2.2.1.2.2.2.2.1.length, (↑y.2.2.2.2.1.2.2.2.2.1.length : Int), (0 : Int), ())) fun y => T.ite (exEq y.1 (Ex.exit (2 : Nat))) (T.ret ((List.take y.2.2.2.2.1.1.length y.2.2.2.2.1.1, List.take y.2.2.2.2.1.2.1.length y.2.2.2.2.1.2.1, List.take y.2.2.2.2.1.2.2.1.length y.2.2.2.2.1.2.2.1, y.2.2.2.2.1.2.2.2.1, List.take y.2.2.2.2.1.2.2.2.2.1.length y.2.2.2.2.1.2.2.2.2.1, y.2.2.2.2.1.2.2.2.2.2.1, y.2.2.2.2.1.2.2.2.2.2.2.1, y.2.2.2.2.1.2.2.2.2.2.2.2.1), ErrD.nil)) T.fail) T.fail) T.fail) T.fail) T.fail) T.fail) T.fail) T.fail))
noncomputable def merge_Dim (x : ((List ((Int × Int × Int) × (Int × Int × Int) × Int)) × (List ((Int × Int × Int) × (Int × Int × Int) × (Int × Int × Int) × Int)) × (List (Int × Int × Int × Int)) × Int × (List (Int × Int × Int)) × ((Int × Int × Int) × (Int × Int × Int) × (Int × Int × Int) × Int × Int × Int) × Int × Int) × Int × Int) : Option (((List ((Int × Int × Int) × (Int × Int × Int) × Int)) × (List ((Int × Int × Int) × (Int × Int × Int) × (Int × Int × Int) × Int)) × (List (Int × Int × Int × Int)) × Int × (List (Int × Int × Int)) × ((Int × Int × Int) × (Int × Int × Int) × (Int × Int × Int) × Int × Int × Int) × Int × Int) × ErrD) := (merge_Dim.t x).run
noncomputable def merge_Dim.q : List AV → T AV := entry [TScn, TI, TI] (outR [TScn, TE]) fun x => .opt (merge_Dim x) .ret
theorem merge_Dim.ok : FnOK Tryd.prog 20 merge_Dim.q :=
  entry_call (ps := [TScn, TI, TI]) (rs := [TScn, TE]) (F := (dpT Tryd.prog (ext (ext (ext (ext (ext Xs 26 scene_Check.q) 27 fault_New.q) 42 merge_Dim_1.q) 68 scene_lights_1.q) 72 scene_within_1.q) merge_Dim.deeps tb 100 8)) (D := (inL merge_Dim.deeps.D)) (S := tabS [(0, loopS merge_Dim.L0 76 0 [.exit 0] merge_Dim.l0), (2, loopS merge_Dim.L2 76 2 [.exit 2] merge_Dim.l2)]) (t := merge_Dim.t) mixed (dpT_ok mixed (quiet_ext (quiet_ext (quiet_ext (quiet_ext (quiet_ext Xok scene_Check.ok) fault_New.ok) merge_Dim_1.ok) scene_lights_1.ok) scene_within_1.ok) merge_Dim.deepsOk tbOk 100 8).1 (dpT_ok mixed (quiet_ext (quiet_ext (quiet_ext (quiet_ext (quiet_ext Xok scene_Check.ok) fault_New.ok) merge_Dim_1.ok) scene_lights_1.ok) scene_within_1.ok) merge_Dim.deepsOk tbOk 100 8).2 Tryd.func20 (by kernel_rfl) (sok_fn ⟨merge_Dim.k0, merge_Dim.k2, trivial⟩) (by kernel_rfl) (fun x => by kernel_rfl)
end Go.Proofs.Pen

namespace Go.Proofs.Pen
open Go Go.Proofs
noncomputable def ref48_Dim.t (x : (Int × Int × Int) × Int × Int) : T ((Int × Int × Int)) := T.ite (x.2.2 == (0 : Int)) T.fail (T.ite (x.2.2 == (0 : Int)) T.fail (T.ite (x.2.2 == (0 : Int)) T.fail (T.ret (W ((W (x.1.1 * x.2.1)).tdiv x.2.2), W ((W (x.1.2.1 * x.2.1)).tdiv x.2.2), W ((W (x.1.2.2 * x.2.1)).tdiv x.2.2)))))
noncomputable def ref48_Dim (x : (Int × Int × Int) × Int × Int) : Option ((Int × Int × Int)) := (ref48_Dim.t x).run
noncomputable def ref48_Dim.q : List AV → T AV := entry [TP, TI, TI] (outR [TP]) fun x => .opt (ref48_Dim x) .ret
theorem ref48_Dim.ok : FnOK Tryd.prog 21 ref48_Dim.q :=
  entry_call (ps := [TP, TI, TI]) (rs := [TP]) (F := ({ quiet := Xs, deep := noDeep } : Fns)) (D := D0) (S := tabS []) (t := ref48_Dim.t) mixed Xok (deep_none _) Tryd.func21 (by kernel_rfl) (sok_fn trivial) (by kernel_rfl) (fun x => by kernel_rfl)
end Go.Proofs.Pen

namespace Go.Proofs.Pen
open Go Go.Proofs
noncomputable def merge_Join_1.t (x : Int × Int) : T (Int) := T.ret (W (x.1 + x.2))
noncomputable def merge_Join_1.q : List AV → T AV := entry [TI, TI] (outR [TI]) merge_Join_1.t
theorem merge_Join_1.ok : FnOK Tryd.prog 29 merge_Join_1.q :=
  entry_in (ps := [TI, TI]) (rs := [TI]) (F := ({ quiet := Xs, deep := noDeep } : Fns)) (D := D0) (S := tabS []) (t := merge_Join_1.t) mixed Xok (deep_none _) Tryd.func29 (by kernel_rfl) (sok_fn trivial) (by kernel_rfl) (fun x => by kernel_rfl)
end Go.Proofs.Pen

namespace Go.Proofs.Pen
open Go Go.Proofs
def law48_MergeDims.L0 : List (Nat × Lay) := [(1, .val TI), (2, .val TI), (3, .box TScn), (6, .val .bool), (7, .box TScn), (10, .val TI)]
noncomputable def law48_MergeDims.t0 (x : Int × Int × ((List ((Int × Int × Int) × (Int × Int × Int) × Int)) × (List ((Int × Int × Int) × (Int × Int × Int) × (Int × Int × Int) × Int)) × (List (Int × Int × Int × Int)) × Int × (List (Int × Int × Int)) × ((Int × Int × Int) × (Int × Int × Int) × (Int × Int × Int) × Int × Int × Int) × Int × Int) × Bool × ((List ((Int × Int × Int) × (Int × Int × Int) × Int)) × (List ((Int × Int × Int) × (Int × Int × Int) × (Int × Int × Int) × Int)) × (List (Int × Int × Int × Int)) × Int × (List (Int × Int × Int)) × ((Int × Int × Int) × (Int × Int × Int) × (Int × Int × Int) × Int × Int × Int) × Int × Int) × Int × Unit) : T (Ex × Int × Int × ((List ((Int × Int × Int) × (Int × Int × Int) × Int)) × (List ((Int × Int × Int) × (Int × Int × Int) × (Int × Int × Int) × Int)) × (List (Int × Int × Int × Int)) × Int × (List (Int × Int × Int)) × ((Int × Int × Int) × (Int × Int × Int) × (Int × Int × Int) × Int × Int × Int) × Int × Int) × Bool × ((List ((Int × Int × Int) × (Int × Int × Int) × Int)) × (List ((Int × Int × Int) × (Int × Int × Int) × (Int × Int × Int) × Int)) × (List (Int × Int × Int × Int)) × Int × (List (Int × Int × Int)) × ((Int × Int × Int) × (Int × Int × Int) × (Int × Int × Int) × Int × Int × Int) × Int × Int) × Int × Unit) := T.ite (decide (x.2.2.2.2.2.1 < (↑(List.length x.2.2.1.2.2.1) : Int))) (T.opt (lget x.2.2.2.2.1.2.2.1 x.2.2.2.2.2.1) fun y => T.opt (lget x.2.2.1.2.2.1 x.2.2.2.2.2.1) fun y_1 => T.ite (y.1 != y_1.fst) (T.ret (Ex.ret, x.1, x.2.1, x.2.2.1, false, x.2.2.2.2.1, x.2.2.2.2.2.1, ())) (T.opt (lget x.2.2.2.2.1.2.2.1 x.2.2.2.2.2.1) fun y => T.opt (lget x.2.2.1.2.2.1 x.2.2.2.2.2.1) fun y_2 => T.opt (ref48_Dim (y_2.snd, x.1, x.2.1)) fun y_3 => T.ite (!(y.2.1 == y_3.fst && (y.2.2.1 == y_3.snd.fst && y.2.2.2 == y_3.snd.snd))) (T.ret (Ex.ret, x.1, x.2.1, x.2.2.1, false, x.2.2.2.2.1, x.2.2.2.2.2.1, ())) (T.ret (Ex.normal, x.1, x.2.1, x.2.2.1, x.2.2.2.1, x.2.2.2.2.1, W (x.2.2.2.2.2.1 + (1 : Int)), ())))) (T.ret (Ex.exit (0 : Nat), x.1, x.2.1, x.2.2.1, x.2.2.2.1, x.2.2.2.2.1, x.2.2.2.2.2.1, ()))
noncomputable def law48_MergeDims.l0 (x : Int × Int × ((List ((Int × Int × Int) × (Int × Int × Int) × Int)) × (List ((Int × Int × Int) × (Int × Int × Int) × (Int × Int × Int) × Int)) × (List (Int × Int × Int × Int)) × Int × (List (Int × Int × Int)) × ((Int × Int × Int) × (Int × Int × Int) × (Int × Int × Int) × Int × Int × Int) × Int × Int) × Bool × ((List ((Int × Int × Int) × (Int × Int × Int) × Int)) × (List ((Int × Int × Int) × (Int × Int × Int) × (Int × Int × Int) × Int)) × (List (Int × Int × Int × Int)) × Int × (List (Int × Int × Int)) × ((Int × Int × Int) × (Int × Int × Int) × (Int × Int × Int) × Int × Int × Int) × Int × Int) × Int × Unit) : Option (Ex × Int × Int × ((List ((Int × Int × Int) × (Int × Int × Int) × Int)) × (List ((Int × Int × Int) × (Int × Int × Int) × (Int × Int × Int) × Int)) × (List (Int × Int × Int × Int)) × Int × (List (Int × Int × Int)) × ((Int × Int × Int) × (Int × Int × Int) × (Int × Int × Int) × Int × Int × Int) × Int × Int) × Bool × ((List ((Int × Int × Int) × (Int × Int × Int) × Int)) × (List ((Int × Int × Int) × (Int × Int × Int) × (Int × Int × Int) × Int)) × (List (Int × Int × Int × Int)) × Int × (List (Int × Int × Int)) × ((Int × Int × Int) × (Int × Int × Int) × (Int × Int × Int) × Int × Int × Int) × Int × Int) × Int × Unit) := (iterT law48_MergeDims.t0 rounds x).run
theorem law48_MergeDims.k0 : bodies 0 (lp Tryd.f5 []) = [.loop (loopIn 0 (lp Tryd.f5 []))] ∧ WP Tryd.prog 0 (.block 0 (.loop (loopIn 0 (lp Tryd.f5 [])))) (loopS law48_MergeDims.L0 141 0 [.exit 0, .ret] law48_MergeDims.l0) :=
  loop_tree (L := law48_MergeDims.L0) (F := ({ quiet := (ext (ext (ext (ext (ext (ext (ext (ext (ext (ext Xs 7 law22_Light.q) 8 law48_awake.q) 20 merge_Dim.q) 10 ref22_Check.q) 11 law48_wrong.q) 21 ref48_Dim.q) 29 merge_Join_1.q) 42 merge_Dim_1.q) 68 scene_lights_1.q) 72 scene_within_1.q), deep := noDeep } : Fns)) (D := D0) (tab := []) (t := law48_MergeDims.t0) mixed (quiet_ext (quiet_ext (quiet_ext (quiet_ext (quiet_ext (quiet_ext (quiet_ext (quiet_ext (quiet_ext (quiet_ext Xok law22_Light.ok) law48_awake.ok) merge_Dim.ok) ref22_Check.ok) law48_wrong.ok) ref48_Dim.ok) merge_Join_1.ok) merge_Dim_1.ok) scene_lights_1.ok) scene_within_1.ok) (deep_none _) (fun _ => rfl) (by kernel_rfl) (by kernel_rfl) trivial (fun x => by kernel_rfl)
def law48_MergeDims.L2 : List (Nat × Lay) := [(1, .val TI), (2, .val TI), (3, .box TScn), (6, .val .bool), (7, .box TScn), (11, .val TI)]
noncomputable def law48_MergeDims.t2 (x : Int × Int × ((List ((Int × Int × Int) × (Int × Int × Int) × Int)) × (List ((Int × Int × Int) × (Int × Int × Int) × (Int × Int × Int) × Int)) × (List (Int × Int × Int × Int)) × Int × (List (Int × Int × Int)) × ((Int × Int × Int) × (Int × Int × Int) × (Int × Int × Int) × Int × Int × Int) × Int × Int) × Bool × ((List ((Int × Int × Int) × (Int × Int × Int) × Int)) × (List ((Int × Int × Int) × (Int × Int × Int) × (Int × Int × Int) × Int)) × (List (Int × Int × Int × Int)) × Int × (List (Int × Int × Int)) × ((Int × Int × Int) × (Int × Int × Int) × (Int × Int × Int) × Int × Int × Int) × Int × Int) × Int × Unit) : T (Ex × Int × Int × ((List ((Int × Int × Int) × (Int × Int × Int) × Int)) × (List ((Int × Int × Int) × (Int × Int × Int) × (Int × Int × Int) × Int)) × (List (Int × Int × Int × Int)) × Int × (List (Int × Int × Int)) × ((Int × Int × Int) × (Int × Int × Int) × (Int × Int × Int) × Int × Int × Int) × Int × Int) × Bool × ((List ((Int × Int × Int) × (Int × Int × Int) × Int)) × (List ((Int × Int × Int) × (Int × Int × Int) × (Int × Int × Int) × Int)) × (List (Int × Int × Int × Int)) × Int × (List (Int × Int × Int)) × ((Int × Int × Int) × (Int × Int × Int) × (Int × Int × Int) × Int × Int × Int) × Int × Int) × Int × Unit) := T.ite (decide (x.2.2.2.2.2.1 < (↑(List.length x.2.2.1.2.2.2.2.1) : Int))) (T.opt (lget x.2.2.2.2.1.2.2.2.2.1 x.2.2.2.2.2.1) fun y => T.opt (lget x.2.2.1.2.2.2.2.1 x.2.2.2.2.2.1) fun y_1 => T.opt (ref48_Dim (y_1, x.1, x.2.1)) fun y_2 => T.ite (!(y.1 == y_2.fst && (y.2.1 == y_2.snd.fst && y.2.2 == y_2.snd.snd))) (T.ret (Ex.ret, x.1, x.2.1, x.2.2.1, false, x.2.2.2.2.1, x.2.2.2.2.2.1, ())) (T.ret (Ex.normal, x.1, x.2.1, x.2.2.1, x.2.2.2.1, x.2.2.2.2.1, W (x.2.2.2.2.2.1 + (1 : Int)), ()))) (T.ret (Ex.exit (2 : Nat), x.1, x.2.1, x.2.2.1, x.2.2.2.1, x.2.2.2.2.1, x.2.2.2.2.2.1, ()))
noncomputable def law48_MergeDims.l2 (x : Int × Int × ((List ((Int × Int × Int) × (Int × Int × Int) × Int)) × (List ((Int × Int × Int) × (Int × Int × Int) × (Int × Int × Int) × Int)) × (List (Int × Int × Int × Int)) × Int × (List (Int × Int × Int)) × ((Int × Int × Int) × (Int × Int × Int) × (Int × Int × Int) × Int × Int × Int) × Int × Int) × Bool × ((List ((Int × Int × Int) × (Int × Int × Int) × Int)) × (List ((Int × Int × Int) × (Int × Int × Int) × (Int × Int × Int) × Int)) × (List (Int × Int × Int × Int)) × Int × (List (Int × Int × Int)) × ((Int × Int × Int) × (Int × Int × Int) × (Int × Int × Int) × Int × Int × Int) × Int × Int) × Int × Unit) : Option (Ex × Int × Int × ((List ((Int × Int × Int) × (Int × Int × Int) × Int)) × (List ((Int × Int × Int) × (Int × Int × Int) × (Int × Int × Int) × Int)) × (List (Int × Int × Int × Int)) × Int × (List (Int × Int × Int)) × ((Int × Int × Int) × (Int × Int × Int) × (Int × Int × Int) × Int × Int × Int) × Int × Int) × Bool × ((List ((Int × Int × Int) × (Int × Int × Int) × Int)) × (List ((Int × Int × Int) × (Int × Int × Int) × (Int × Int × Int) × Int)) × (List (Int × Int × Int × Int)) × Int × (List (Int × Int × Int)) × ((Int × Int × Int) × (Int × Int × Int) × (Int × Int × Int) × Int × Int × Int) × Int × Int) × Int × Unit) := (iterT law48_MergeDims.t2 rounds x).run
theorem law48_MergeDims.k2 : bodies 2 (lp Tryd.f5 []) = [.loop (loopIn 2 (lp Tryd.f5 []))] ∧ WP Tryd.prog 0 (.block 2 (.loop (loopIn 2 (lp Tryd.f5 [])))) (loopS law48_MergeDims.L2 141 2 [.exit 2, .ret] law48_MergeDims.l2) :=
  loop_tree (L := law48_MergeDims.L2) (F := ({ quiet := (ext (ext (ext (ext (ext (ext (ext (ext (ext (ext Xs 7 law22_Light.q) 8 law48_awake.q) 20 merge_Dim.q) 10 ref22_Check.q) 11 law48_wrong.q) 21 ref48_Dim.q) 29 merge_Join_1.q) 42 merge_Dim_1.q) 68 scene_lights_1.q) 72 scene_within_1.q), deep := noDeep } : Fns)) (D := D0) (tab := []) (t := law48_MergeDims.t2) mixed (quiet_ext (quiet_ext (quiet_ext (quiet_ext (quiet_ext (quiet_ext (quiet_ext (quiet_ext (quiet_ext (quiet_ext Xok law22_Light.ok) law48_awake.ok) merge_Dim.ok) ref22_Check.ok) law48_wrong.ok) ref48_Dim.ok) merge_Join_1.ok) merge_Dim_1.ok) scene_lights_1.ok) scene_within_1.ok) (deep_none _) (fun _ => rfl) (by kernel_rfl) (by kernel_rfl) trivial (fun x => by kernel_rfl)
noncomputable def law48_MergeDims.t (x : ((List ((Int × Int × Int) × (Int × Int × Int) × Int)) × (List ((Int × Int × Int) × (Int × Int × Int) × (Int × Int × Int) × Int)) × (List (Int × Int × Int × Int)) × Int × (List (Int × Int × Int)) × ((Int × Int × Int) × (Int × Int × Int) × (Int × Int × Int) × Int × Int × Int) × Int × Int) × Int × Int) : T (Bool) := T.ite (!(decide ((↑x.1.1.length : Int) ≤ (40 : Int)) && decide ((↑x.1.2.1.length : Int) ≤ (60 : Int)) && decide ((↑x.1.2.2.1.length : Int) ≤ (60 : Int)) && decide ((↑x.1.2.2.2.2.1.length : Int) ≤ (200 : Int)))) (T.ret true) (T.opt (merge_Dim x) fun y => T.opt (ref22_Check x.1) fun y_1 => T.ite (!(y_1.fst == (0 : Int) && (y_1.snd.fst == (0 : Int) && y_1.snd.snd == (0 : Int)))) (T.ite true (T.opt (law48_wrong (y.2, y_1)) fun y => T.ret y) (T.ret false)) (T.ite (decide (x.2.2 < (1 : Int)) || decide (x.2.2 > (1048576 : Int)) || decide (x.2.1 < (0 : Int)) || decide (x.2.1 > x.2.2)) (T.ite true (T.ret (ErrD.top y.2 == (3 : Int))) (T.ret false)) (T.ite (!ErrD.isNil y.2 || (↑(List.length y.1.2.2.1) : Int) != (↑(List.length x.1.2.2.1) : Int) || (↑(List.length y.1.2.2.2.2.1) : Int) != (↑(List.length x.1.2.2.2.2.1) : Int)) (T.ret false) (T.opt (ref22_Check y.1) fun y_2 => T.ite (!(y_2.fst == (0 : Int) && (y_2.snd.fst == (0 : Int) && y_2.snd.snd == (0 : Int)))) (T.ret false) (T.opt (law48_MergeDims.l0 (x.2.1, x.2.2, x.1, false, y.1, (0 : Int), ())) fun y => T.ite (exEq y.1 (Ex.exit (0 : Nat))) (T.opt (law48_MergeDims.l2 (y.2.1, y.2.2.1, y.2.2.2.1, y.2.2.2.2.1, y.2.2.2.2.2.1, (0 : Int), ())) fun y => T.ite (exEq y.1 (Ex.exit (2 : Nat))) (T.ret true) (T.ite (exEq y.1 Ex.ret) (T.ret y.2.2.2.2.1) T.fail)) (T.ite (exEq y.1 Ex.ret) (T.ret y.2.2.2.2.1) T.fail))))))
noncomputable def law48_MergeDims (x : ((List ((Int × Int × Int) × (Int × Int × Int) × Int)) × (List ((Int × Int × Int) × (Int × Int × Int) × (Int × Int × Int) × Int)) × (List (Int × Int × Int × Int)) × Int × (List (Int × Int × Int)) × ((Int × Int × Int) × (Int × Int × Int) × (Int × Int × Int) × Int × Int × Int) × Int × Int) × Int × Int) : Option (Bool) := (law48_MergeDims.t x).run
noncomputable def law48_MergeDims.q : List AV → T AV := entry [TScn, TI, TI] (outR [.bool]) fun x => .opt (law48_MergeDims x) .ret
theorem law48_MergeDims.ok : FnOK Tryd.prog 5 law48_MergeDims.q :=
  entry_call (ps := [TScn, TI, TI]) (rs := [.bool]) (F := ({ quiet := (ext (ext (ext (ext (ext (ext (ext (ext (ext (ext Xs 7 law22_Light.q) 8 law48_awake.q) 20 merge_Dim.q) 10 ref22_Check.q) 11 law48_wrong.q) 21 ref48_Dim.q) 29 merge_Join_1.q) 42 merge_Dim_1.q) 68 scene_lights_1.q) 72 scene_within_1.q), deep := noDeep } : Fns)) (D := D0) (S := tabS [(0, loopS law48_MergeDims.L0 141 0 [.exit 0, .ret] law48_MergeDims.l0), (2, loopS law48_MergeDims.L2 141 2 [.exit 2, .ret] law48_MergeDims.l2)]) (t := law48_MergeDims.t) mixed (quiet_ext (quiet_ext (quiet_ext (quiet_ext (quiet_ext (quiet_ext (quiet_ext (quiet_ext (quiet_ext (quiet_ext Xok law22_Light.ok) law48_awake.ok) merge_Dim.ok) ref22_Check.ok) law48_wrong.ok) ref48_Dim.ok) merge_Join_1.ok) merge_Dim_1.ok) scene_lights_1.ok) scene_within_1.ok) (deep_none _) Tryd.func5 (by kernel_rfl) (sok_fn ⟨law48_MergeDims.k0, law48_MergeDims.k2, trivial⟩) (by kernel_rfl) (fun x => by kernel_rfl)
end Go.Proofs.Pen

namespace Go.Proofs.Pen
open Go Go.Proofs

def dimP (n d : Int) (p : W3) : W3 := (W ((W (p.1 * n)).tdiv d), W ((W (p.2.1 * n)).tdiv d), W ((W (p.2.2 * n)).tdiv d))
def dimL (n d : Int) (l : LitT) : LitT := (l.1, dimP n d l.2)
def dimS (n d : Int) (x : ScT) : ScT := (x.1, x.2.1, x.2.2.1.map (dimL n d), x.2.2.2.1, x.2.2.2.2.1.map (dimP n d), x.2.2.2.2.2)

theorem Dim1_eq (p : W3) {n d : Int} (h : 0 < d) : merge_Dim_1 (p, n, d) = some (dimP n d p) := by
  have h0 : (d == 0) = false := by simp; omega
  unfold merge_Dim_1 merge_Dim_1.t
  dsimp only
  rw [tr_no h0, tr_no h0, tr_no h0, tr_ret]; rfl
theorem RDim_eq (p : W3) {n d : Int} (h : 0 < d) : ref48_Dim (p, n, d) = some (dimP n d p) := by
  have h0 : (d == 0) = false := by simp; omega
  unfold ref48_Dim ref48_Dim.t
  dsimp only
  rw [tr_no h0, tr_no h0, tr_no h0, tr_ret]; rfl

theorem ble_of {α : Type} {n : Nat} {l : List α} (h : l.length = n) : (Nat.ble n l.length && true) = true := by rw [h]; simp

theorem Dim_l0 (n d : Int) (hd : 0 < d) (M : List MatT) (T : List TriT) (L : List LitT) (z : Int) (C : List W3) (c : CamT) (k h : Int) (hL : L.length ≤ 900) :
    merge_Dim.l0 (n, d, ZS, (M, T, L, z, C, c, k, h, ()), L.length, (L.length : Int), 0, ()) = some (.exit 0, n, d, ZS, (M, T, L.map (dimL n d), z, C, c, k, h, ()), L.length, (L.length : Int), (L.length : Int), ()) := by
  have key := iter_count (t := merge_Dim.t0) (fun i => (n, d, ZS, (M, T, (L.take i).map (dimL n d) ++ L.drop i, z, C, c, k, h, ()), L.length, (L.length : Int), (i : Int), ())) (e := .exit 0)
    (z := (n, d, ZS, (M, T, (L.take L.length).map (dimL n d) ++ L.drop L.length, z, C, c, k, h, ()), L.length, (L.length : Int), (L.length : Int), ())) (by simp) L.length 0 rounds
    (fun i _ hi => by
      have hi : i < L.length := by omega
      unfold merge_Dim.t0
      dsimp only
      rw [tr_yes (by simp; omega), tr_yes (by simp; omega), tr_opt, part_get (dimL n d) L hi, Option.bind_some, tr_opt, Dim1_eq _ hd, Option.bind_some, tr_yes (by rw [part_len]; simp; omega), tr_opt, Option.bind_some]
      rw [show (L[i].1, dimP n d L[i].2) = dimL n d L[i] from rfl, part_set (dimL n d) L hi, W_succ (by omega)]
      have ht : List.take ((L.take i).map (dimL n d) ++ L.drop i).length ((L.take (i + 1)).map (dimL n d) ++ L.drop (i + 1)) = (L.take (i + 1)).map (dimL n d) ++ L.drop (i + 1) := List.take_of_length_le (by rw [part_len, part_len]; exact Nat.le_refl _)
      refine (tr_yes (ble_of (l := List.take ((L.take i).map (dimL n d) ++ L.drop i).length ((L.take (i + 1)).map (dimL n d) ++ L.drop (i + 1))) (by rw [ht]; exact part_len _ _ _))).trans ?_
      rw [ht, tr_ret]
      simp only [List.take_length])
    (by
      unfold merge_Dim.t0
      dsimp only
      rw [Nat.zero_add, tr_no (by simp)]
      refine (tr_yes (ble_of (l := List.take ((L.take L.length).map (dimL n d) ++ L.drop L.length).length ((L.take L.length).map (dimL n d) ++ L.drop L.length)) (by rw [List.take_length]; exact part_len _ _ _))).trans ?_
      rw [tr_ret]
      simp only [List.take_length])
    (rounds_gt (by omega))
  simp only [List.take_zero, List.map_nil, List.nil_append, List.take_length, List.drop_zero, List.drop_length, List.append_nil] at key
  exact key

theorem Dim_l2 (n d : Int) (hd : 0 < d) (M : List MatT) (T : List TriT) (L : List LitT) (z : Int) (C : List W3) (c : CamT) (k h : Int) (hL : C.length ≤ 900) :
    merge_Dim.l2 (n, d, ZS, (M, T, L, z, C, c, k, h, ()), C.length, (C.length : Int), 0, ()) = some (.exit 2, n, d, ZS, (M, T, L, z, C.map (dimP n d), c, k, h, ()), C.length, (C.length : Int), (C.length : Int), ()) := by
  have key := iter_count (t := merge_Dim.t2) (fun i => (n, d, ZS, (M, T, L, z, (C.take i).map (dimP n d) ++ C.drop i, c, k, h, ()), C.length, (C.length : Int), (i : Int), ())) (e := .exit 2)
    (z := (n, d, ZS, (M, T, L, z, (C.take C.length).map (dimP n d) ++ C.drop C.length, c, k, h, ()), C.length, (C.length : Int), (C.length : Int), ())) (by simp) C.length 0 rounds
    (fun i _ hi => by
      have hi : i < C.length := by omega
      unfold merge_Dim.t2
      dsimp only
      rw [tr_yes (by simp; omega), tr_yes (by simp; omega), tr_opt, part_get (dimP n d) C hi, Option.bind_some, tr_opt, Dim1_eq _ hd, Option.bind_some, tr_yes (by rw [part_len]; simp; omega), tr_opt, Option.bind_some]
      rw [part_set (dimP n d) C hi, W_succ (by omega)]
      have ht : List.take ((C.take i).map (dimP n d) ++ C.drop i).length ((C.take (i + 1)).map (dimP n d) ++ C.drop (i + 1)) = (C.take (i + 1)).map (dimP n d) ++ C.drop (i + 1) := List.take_of_length_le (by rw [part_len, part_len]; exact Nat.le_refl _)
      refine (tr_yes (ble_of (l := List.take ((C.take i).map (dimP n d) ++ C.drop i).length ((C.take (i + 1)).map (dimP n d) ++ C.drop (i + 1))) (by rw [ht]; exact part_len _ _ _))).trans ?_
      rw [ht, tr_ret]
      simp only [List.take_length])
    (by
      unfold merge_Dim.t2
      dsimp only
      rw [Nat.zero_add, tr_no (by simp)]
      refine (tr_yes (ble_of (l := List.take ((C.take C.length).map (dimP n d) ++ C.drop C.length).length ((C.take C.length).map (dimP n d) ++ C.drop C.length)) (by rw [List.take_length]; exact part_len _ _ _))).trans ?_
      rw [tr_ret]
      simp only [List.take_length])
    (rounds_gt (by omega))
  simp only [List.take_zero, List.map_nil, List.nil_append, List.take_length, List.drop_zero, List.drop_length, List.append_nil] at key
  exact key

def dimBad (n d : Int) : Bool := decide (d < 1) || decide (d > 1048576) || decide (n < 0) || decide (n > d)

theorem Dim_eq (x : ScT) (n d : Int) (hx : lightB x) : merge_Dim (x, n, d) = some (match wr x with
    | some w => (ZS, mkErr (some w))
    | none => if dimBad n d = true then (ZS, .fault 3 0 .nil) else (dimS n d x, .nil)) := by
  unfold merge_Dim merge_Dim.t
  dsimp only
  rw [tr_opt, Check_eq x hx, Option.bind_some, tr_ite, mkErr_nil]
  cases hw : wr x with
  | some w => rfl
  | none =>
  obtain ⟨x1, x2, x3, x4⟩ := hx
  rw [if_neg (by simp), tr_ite]
  have hbad : (decide (d < 1) || decide (d > 1048576) || decide (n < 0) || decide (n > d)) = dimBad n d := rfl
  rw [hbad]
  by_cases hb : dimBad n d = true
  · rw [if_pos hb]
    dsimp only
    rw [if_pos hb]; rfl
  rw [if_neg hb]
  dsimp only
  rw [if_neg hb]
  have hd : 0 < d := by
    unfold dimBad at hb
    simp only [Bool.or_eq_true, decide_eq_true_eq] at hb
    omega
  rw [tr_yes (decide_eq_true (small60 x1 (by omega))), tr_yes (decide_eq_true (small60 x2 (by omega))), tr_yes (decide_eq_true (small60 x3 (by omega))), tr_yes (decide_eq_true (small60 x4 (by omega)))]
  refine (tr_yes (ble_of (l := List.take x.2.2.1.length x.2.2.1) (by rw [List.take_length]))).trans ?_
  simp only [List.take_length]
  rw [tr_opt, Dim_l0 n d hd _ _ _ _ _ _ _ _ x3, Option.bind_some]
  dsimp only
  rw [tr_yes (by rfl)]
  refine (tr_yes (ble_of (l := List.take (x.2.2.2.2.1).length x.2.2.2.2.1) (by rw [List.take_length]))).trans ?_
  rw [tr_opt, Dim_l2 n d hd _ _ _ _ _ _ _ _ x4, Option.bind_some]
  dsimp only
  rw [tr_yes (by rfl), tr_ret]
  rfl

theorem dim_in {n d : Int} (h : dimBad n d = false) {p : W3} (hp : in3 p 0 67108863 = true) : in3 (dimP n d p) 0 67108863 = true := by
  unfold dimBad at h
  simp only [Bool.or_eq_false_iff, decide_eq_false_iff_not] at h
  obtain ⟨⟨⟨h1, h2⟩, h3⟩, h4⟩ := h
  have one : ∀ a : Int, 0 ≤ a → a ≤ 67108863 → 0 ≤ W ((W (a * n)).tdiv d) ∧ W ((W (a * n)).tdiv d) ≤ 67108863 := by
    intro a a1 a2
    have m1 : a * n ≤ 67108863 * 1048576 := Int.mul_le_mul a2 (by omega) (by omega) (by omega)
    have m0 : 0 ≤ a * n := Int.mul_nonneg a1 (by omega)
    have m2 : a * n ≤ a * d := Int.mul_le_mul_of_nonneg_left (by omega) a1
    rw [W_id (n := a * n) (by omega) (by omega)]
    have q0 : 0 ≤ (a * n).tdiv d := Int.tdiv_nonneg m0 (by omega)
    have q1 : (a * n).tdiv d ≤ a := by
      rw [Int.tdiv_eq_ediv_of_nonneg m0]
      exact Int.ediv_le_of_le_mul (by omega) m2
    rw [W_id (by omega) (by omega)]
    omega
  obtain ⟨⟨p1, p2⟩, ⟨p3, p4⟩, p5, p6⟩ := in3_iff.1 hp
  exact in3_iff.2 ⟨one _ p1 p2, one _ p3 p4, one _ p5 p6⟩

theorem ok_dim {n d : Int} (h : dimBad n d = false) {x : ScT} (hx : okS x) : okS (dimS n d x) := by
  obtain ⟨gx, mx, tx, lx, nx, ⟨zx, cx⟩, ex, dx⟩ := hx
  have gx := bigB_false.1 gx
  unfold dimS
  refine ⟨bigB_false.2 ⟨gx.1, gx.2.1, ?_, gx.2.2.2⟩, mx, tx, ?_, ?_, ⟨zx, ?_⟩, ?_, ?_⟩
  · dsimp only; rw [List.length_map]; exact gx.2.2.1
  · intro t ht
    obtain ⟨u, hu, rfl⟩ := List.mem_map.1 ht
    obtain ⟨g1, g2, g3⟩ := lx u hu
    exact ⟨g1, g2, dim_in h g3⟩
  · dsimp only
    rw [List.pairwise_map]
    exact nx
  · dsimp only; rw [List.length_map]; exact cx
  · intro c hc
    obtain ⟨u, hu, rfl⟩ := List.mem_map.1 hc
    exact dim_in h (ex u hu)
  · rw [← dx]; exact cam_same rfl

theorem Dims_l0 (n d : Int) (hd : 0 < d) (x : ScT) (hx : lightB x) : law48_MergeDims.l0 (n, d, x, false, dimS n d x, 0, ()) = some (.exit 0, n, d, x, false, dimS n d x, (x.2.2.1.length : Int), ()) := by
  obtain ⟨_, _, h3, _⟩ := hx
  have key := iter_count (t := law48_MergeDims.t0) (fun i => (n, d, x, false, dimS n d x, (i : Int), ())) (e := .exit 0) (z := (n, d, x, false, dimS n d x, (x.2.2.1.length : Int), ())) (by simp) x.2.2.1.length 0 rounds
    (fun i _ hi => by
      have hi : i < x.2.2.1.length := by omega
      have hl : lget (dimS n d x).2.2.1 (i : Int) = some (dimL n d x.2.2.1[i]) := by
        unfold dimS
        rw [lget_nat _ (by rw [List.length_map]; exact hi), List.getElem_map]
      unfold law48_MergeDims.t0
      dsimp only
      rw [tr_yes (by simp; omega), tr_opt, hl, Option.bind_some, tr_opt, lget_nat _ hi, Option.bind_some, tr_no (by simp [dimL]), tr_opt, Option.bind_some, tr_opt, Option.bind_some, tr_opt, RDim_eq _ hd, Option.bind_some, tr_no (by simp [dimL]), tr_ret, W_succ (by omega)])
    (by
      unfold law48_MergeDims.t0
      dsimp only
      rw [Nat.zero_add, tr_no (by simp), tr_ret])
    (rounds_gt (by omega))
  exact key

theorem Dims_l2 (n d : Int) (hd : 0 < d) (x : ScT) (hx : lightB x) : law48_MergeDims.l2 (n, d, x, false, dimS n d x, 0, ()) = some (.exit 2, n, d, x, false, dimS n d x, (x.2.2.2.2.1.length : Int), ()) := by
  obtain ⟨_, _, _, h4⟩ := hx
  have key := iter_count (t := law48_MergeDims.t2) (fun i => (n, d, x, false, dimS n d x, (i : Int), ())) (e := .exit 2) (z := (n, d, x, false, dimS n d x, (x.2.2.2.2.1.length : Int), ())) (by simp) x.2.2.2.2.1.length 0 rounds
    (fun i _ hi => by
      have hi : i < x.2.2.2.2.1.length := by omega
      have hl : lget (dimS n d x).2.2.2.2.1 (i : Int) = some (dimP n d x.2.2.2.2.1[i]) := by
        unfold dimS
        rw [lget_nat _ (by rw [List.length_map]; exact hi), List.getElem_map]
      unfold law48_MergeDims.t2
      dsimp only
      rw [tr_yes (by simp; omega), tr_opt, hl, Option.bind_some, tr_opt, lget_nat _ hi, Option.bind_some, tr_opt, RDim_eq _ hd, Option.bind_some, tr_no (by simp), tr_ret, W_succ (by omega)])
    (by
      unfold law48_MergeDims.t2
      dsimp only
      rw [Nat.zero_add, tr_no (by simp), tr_ret])
    (rounds_gt (by omega))
  exact key

theorem MergeDims_law (x : ScT) (n d : Int) : (law48_MergeDims.t (x, n, d)).run = some true := by
  unfold law48_MergeDims.t
  dsimp only
  rw [tr_ite]
  by_cases hl : x.1.length ≤ 40 ∧ x.2.1.length ≤ 60 ∧ x.2.2.1.length ≤ 60 ∧ x.2.2.2.2.1.length ≤ 200
  case neg => rw [if_pos (by simp; omega), tr_ret]
  have hx := lightOf hl
  rw [if_neg (by simp; omega), tr_opt, Dim_eq x n d hx, Option.bind_some, tr_opt, RCheck_eq x hx, Option.bind_some, tr_ite, mkW_zero (fun w h => wr_ok h)]
  cases hw : wr x with
  | some w =>
    rw [if_pos (by rfl), tr_yes (by rfl), tr_opt]
    dsimp only
    rw [wrong_eq (wr_ok hw), Option.bind_some, tr_ret]
  | none =>
    have ox := wr_none.1 hw
    rw [if_neg (by simp), tr_ite]
    have hbad : (decide (d < 1) || decide (d > 1048576) || decide (n < 0) || decide (n > d)) = dimBad n d := rfl
    rw [hbad]
    by_cases hb : dimBad n d = true
    · rw [if_pos hb, tr_yes (by rfl), tr_ret]
      dsimp only
      rw [if_pos hb]; rfl
    rw [if_neg hb]
    dsimp only
    rw [if_neg hb]
    have hb' : dimBad n d = false := by simpa using hb
    have hd : 0 < d := by
      unfold dimBad at hb
      simp only [Bool.or_eq_true, decide_eq_true_eq] at hb
      omega
    have ho := ok_dim hb' ox
    have hlo : lightB (dimS n d x) := by
      obtain ⟨h1, h2, h3, h4⟩ := hx
      exact ⟨h1, h2, by simpa [dimS] using h3, by simpa [dimS] using h4⟩
    rw [tr_no (by simp [dimS, ErrD.isNil]), tr_opt, RCheck_eq _ hlo, Option.bind_some, wr_none.2 ho, tr_no (by rfl), tr_opt, Dims_l0 n d hd x hx, Option.bind_some]
    dsimp only
    rw [tr_yes (by rfl), tr_opt, Dims_l2 n d hd x hx, Option.bind_some]
    dsimp only
    rw [tr_yes (by rfl), tr_ret]

theorem MergeDims_all (x : dens [TScn, TI, TI]) (_ : insAll [TScn, TI, TI] x) : (law48_MergeDims.t x).run = some true := MergeDims_law x.1 x.2.1 x.2.2
end Go.Proofs.Pen
