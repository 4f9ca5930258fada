/- A part of the proof that the law MergeWithout is true of every input: models of the functions that the law reaches, and what holds of them. -/
import Derived.Test.YtdcdmooafepbiaaDoorPenKit0
import Derived.Test.YtdcdmooafepbiaaDoorPenKit1
import Derived.Test.YtdcdmooafepbiaaDoorPenKit2
import Derived.Test.YtdcdmooafepbiaaDoorPenKit3
import Derived.Test.YtdcdmooafepbiaaDoorPenMergeWithout4
namespace Go.Proofs.Pen
open Go Go.Proofs
def ref22_Same.L0 : List (Nat × Lay) := [(2, .box TScn), (3, .box TScn), (4, .val .bool), (5, .val TI)]
noncomputable def ref22_Same.t0 (x : ((List ((Int × Int × Int) × (Int × Int × Int) × Int)) × (List ((Int × Int × Int) × (Int × Int × Int) × (Int × Int × Int) × Int)) × (List (Int × Int × Int × Int)) × Int × (List (Int × Int × Int)) × ((Int × Int × Int) × (Int × Int × Int) × (Int × Int × Int) × Int × Int × Int) × Int × Int) × ((List ((Int × Int × Int) × (Int × Int × Int) × Int)) × (List ((Int × Int × Int) × (Int × Int × Int) × (Int × Int × Int) × Int)) × (List (Int × Int × Int × Int)) × Int × (List (Int × Int × Int)) × ((Int × Int × Int) × (Int × Int × Int) × (Int × Int × Int) × Int × Int × Int) × Int × Int) × Bool × Int × Unit) : T (Ex × ((List ((Int × Int × Int) × (Int × Int × Int) × Int)) × (List ((Int × Int × Int) × (Int × Int × Int) × (Int × Int × Int) × Int)) × (List (Int × Int × Int × Int)) × Int × (List (Int × Int × Int)) × ((Int × Int × Int) × (Int × Int × Int) × (Int × Int × Int) × Int × Int × Int) × Int × Int) × ((List ((Int × Int × Int) × (Int × Int × Int) × Int)) × (List ((Int × Int × Int) × (Int × Int × Int) × (Int × Int × Int) × Int)) × (List (Int × Int × Int × Int)) × Int × (List (Int × Int × Int)) × ((Int × Int × Int) × (Int × Int × Int) × (Int × Int × Int) × Int × Int × Int) × Int × Int) × Bool × Int × Unit) := T.ite (decide (x.2.2.2.1 < (↑(List.length x.1.1) : Int))) (T.opt (lget x.1.1 x.2.2.2.1) fun y => T.opt (lget x.2.1.1 x.2.2.2.1) fun y_1 => T.ite (!(y.1.1 == y_1.fst.fst && (y.1.2.1 == y_1.fst.snd.fst && y.1.2.2 == y_1.fst.snd.snd) && (y.2.1.1 == y_1.snd.fst.fst && (y.2.1.2.1 == y_1.snd.fst.snd.fst && y.2.1.2.2 == y_1.snd.fst.snd.snd) && y.2.2 == y_1.snd.snd))) (T.ret (Ex.ret, x.1, x.2.1, false, x.2.2.2.1, ())) (T.ret (Ex.normal, x.1, x.2.1, x.2.2.1, W (x.2.2.2.1 + (1 : Int)), ()))) (T.ret (Ex.exit (0 : Nat), x.1, x.2.1, x.2.2.1, x.2.2.2.1, ()))
noncomputable def ref22_Same.l0 (x : ((List ((Int × Int × Int) × (Int × Int × Int) × Int)) × (List ((Int × Int × Int) × (Int × Int × Int) × (Int × Int × Int) × Int)) × (List (Int × Int × Int × Int)) × Int × (List (Int × Int × Int)) × ((Int × Int × Int) × (Int × Int × Int) × (Int × Int × Int) × Int × Int × Int) × Int × Int) × ((List ((Int × Int × Int) × (Int × Int × Int) × Int)) × (List ((Int × Int × Int) × (Int × Int × Int) × (Int × Int × Int) × Int)) × (List (Int × Int × Int × Int)) × Int × (List (Int × Int × Int)) × ((Int × Int × Int) × (Int × Int × Int) × (Int × Int × Int) × Int × Int × Int) × Int × Int) × Bool × Int × Unit) : Option (Ex × ((List ((Int × Int × Int) × (Int × Int × Int) × Int)) × (List ((Int × Int × Int) × (Int × Int × Int) × (Int × Int × Int) × Int)) × (List (Int × Int × Int × Int)) × Int × (List (Int × Int × Int)) × ((Int × Int × Int) × (Int × Int × Int) × (Int × Int × Int) × Int × Int × Int) × Int × Int) × ((List ((Int × Int × Int) × (Int × Int × Int) × Int)) × (List ((Int × Int × Int) × (Int × Int × Int) × (Int × Int × Int) × Int)) × (List (Int × Int × Int × Int)) × Int × (List (Int × Int × Int)) × ((Int × Int × Int) × (Int × Int × Int) × (Int × Int × Int) × Int × Int × Int) × Int × Int) × Bool × Int × Unit) := (iterT ref22_Same.t0 rounds x).run
theorem ref22_Same.k0 : bodies 0 (lp Tryd.f12 []) = [.loop (loopIn 0 (lp Tryd.f12 []))] ∧ WP Tryd.prog 0 (.block 0 (.loop (loopIn 0 (lp Tryd.f12 [])))) (loopS ref22_Same.L0 143 0 [.exit 0, .ret] ref22_Same.l0) :=
  loop_tree (L := ref22_Same.L0) (F := ({ quiet := Xs, deep := noDeep } : Fns)) (D := D0) (tab := []) (t := ref22_Same.t0) mixed Xok (deep_none _) (fun _ => rfl) (by kernel_rfl) (by kernel_rfl) trivial (fun x => by kernel_rfl)
def ref22_Same.L2 : List (Nat × Lay) := [(2, .box TScn), (3, .box TScn), (4, .val .bool), (6, .val TI)]
noncomputable def ref22_Same.t2 (x : ((List ((Int × Int × Int) × (Int × Int × Int) × Int)) × (List ((Int × Int × Int) × (Int × Int × Int) × (Int × Int × Int) × Int)) × (List (Int × Int × Int × Int)) × Int × (List (Int × Int × Int)) × ((Int × Int × Int) × (Int × Int × Int) × (Int × Int × Int) × Int × Int × Int) × Int × Int) × ((List ((Int × Int × Int) × (Int × Int × Int) × Int)) × (List ((Int × Int × Int) × (Int × Int × Int) × (Int × Int × Int) × Int)) × (List (Int × Int × Int × Int)) × Int × (List (Int × Int × Int)) × ((Int × Int × Int) × (Int × Int × Int) × (Int × Int × Int) × Int × Int × Int) × Int × Int) × Bool × Int × Unit) : T (Ex × ((List ((Int × Int × Int) × (Int × Int × Int) × Int)) × (List ((Int × Int × Int) × (Int × Int × Int) × (Int × Int × Int) × Int)) × (List (Int × Int × Int × Int)) × Int × (List (Int × Int × Int)) × ((Int × Int × Int) × (Int × Int × Int) × (Int × Int × Int) × Int × Int × Int) × Int × Int) × ((List ((Int × Int × Int) × (Int × Int × Int) × Int)) × (List ((Int × Int × Int) × (Int × Int × Int) × (Int × Int × Int) × Int)) × (List (Int × Int × Int × Int)) × Int × (List (Int × Int × Int)) × ((Int × Int × Int) × (Int × Int × Int) × (Int × Int × Int) × Int × Int × Int) × Int × Int) × Bool × Int × Unit) := T.ite (decide (x.2.2.2.1 < (↑(List.length x.1.2.1) : Int))) (T.opt (lget x.1.2.1 x.2.2.2.1) fun y => T.opt (lget x.2.1.2.1 x.2.2.2.1) fun y_1 => T.ite (!(y.1.1 == y_1.fst.fst && (y.1.2.1 == y_1.fst.snd.fst && y.1.2.2 == y_1.fst.snd.snd) && (y.2.1.1 == y_1.snd.fst.fst && (y.2.1.2.1 == y_1.snd.fst.snd.fst && y.2.1.2.2 == y_1.snd.fst.snd.snd) && (y.2.2.1.1 == y_1.snd.snd.fst.fst && (y.2.2.1.2.1 == y_1.snd.snd.fst.snd.fst && y.2.2.1.2.2 == y_1.snd.snd.fst.snd.snd) && y.2.2.2 == y_1.snd.snd.snd)))) (T.ret (Ex.ret, x.1, x.2.1, false, x.2.2.2.1, ())) (T.ret (Ex.normal, x.1, x.2.1, x.2.2.1, W (x.2.2.2.1 + (1 : Int)), ()))) (T.ret (Ex.exit (2 : Nat), x.1, x.2.1, x.2.2.1, x.2.2.2.1, ()))
noncomputable def ref22_Same.l2 (x : ((List ((Int × Int × Int) × (Int × Int × Int) × Int)) × (List ((Int × Int × Int) × (Int × Int × Int) × (Int × Int × Int) × Int)) × (List (Int × Int × Int × Int)) × Int × (List (Int × Int × Int)) × ((Int × Int × Int) × (Int × Int × Int) × (Int × Int × Int) × Int × Int × Int) × Int × Int) × ((List ((Int × Int × Int) × (Int × Int × Int) × Int)) × (List ((Int × Int × Int) × (Int × Int × Int) × (Int × Int × Int) × Int)) × (List (Int × Int × Int × Int)) × Int × (List (Int × Int × Int)) × ((Int × Int × Int) × (Int × Int × Int) × (Int × Int × Int) × Int × Int × Int) × Int × Int) × Bool × Int × Unit) : Option (Ex × ((List ((Int × Int × Int) × (Int × Int × Int) × Int)) × (List ((Int × Int × Int) × (Int × Int × Int) × (Int × Int × Int) × Int)) × (List (Int × Int × Int × Int)) × Int × (List (Int × Int × Int)) × ((Int × Int × Int) × (Int × Int × Int) × (Int × Int × Int) × Int × Int × Int) × Int × Int) × ((List ((Int × Int × Int) × (Int × Int × Int) × Int)) × (List ((Int × Int × Int) × (Int × Int × Int) × (Int × Int × Int) × Int)) × (List (Int × Int × Int × Int)) × Int × (List (Int × Int × Int)) × ((Int × Int × Int) × (Int × Int × Int) × (Int × Int × Int) × Int × Int × Int) × Int × Int) × Bool × Int × Unit) := (iterT ref22_Same.t2 rounds x).run
theorem ref22_Same.k2 : bodies 2 (lp Tryd.f12 []) = [.loop (loopIn 2 (lp Tryd.f12 []))] ∧ WP Tryd.prog 0 (.block 2 (.loop (loopIn 2 (lp Tryd.f12 [])))) (loopS ref22_Same.L2 143 2 [.exit 2, .ret] ref22_Same.l2) :=
  loop_tree (L := ref22_Same.L2) (F := ({ quiet := Xs, deep := noDeep } : Fns)) (D := D0) (tab := []) (t := ref22_Same.t2) mixed Xok (deep_none _) (fun _ => rfl) (by kernel_rfl) (by kernel_rfl) trivial (fun x => by kernel_rfl)
def ref22_Same.L4 : List (Nat × Lay) := [(2, .box TScn), (3, .box TScn), (4, .val .bool), (7, .val TI)]
noncomputable def ref22_Same.t4 (x : ((List ((Int × Int × Int) × (Int × Int × Int) × Int)) × (List ((Int × Int × Int) × (Int × Int × Int) × (Int × Int × Int) × Int)) × (List (Int × Int × Int × Int)) × Int × (List (Int × Int × Int)) × ((Int × Int × Int) × (Int × Int × Int) × (Int × Int × Int) × Int × Int × Int) × Int × Int) × ((List ((Int × Int × Int) × (Int × Int × Int) × Int)) × (List ((Int × Int × Int) × (Int × Int × Int) × (Int × Int × Int) × Int)) × (List (Int × Int × Int × Int)) × Int × (List (Int × Int × Int)) × ((Int × Int × Int) × (Int × Int × Int) × (Int × Int × Int) × Int × Int × Int) × Int × Int) × Bool × Int × Unit) : T (Ex × ((List ((Int × Int × Int) × (Int × Int × Int) × Int)) × (List ((Int × Int × Int) × (Int × Int × Int) × (Int × Int × Int) × Int)) × (List (Int × Int × Int × Int)) × Int × (List (Int × Int × Int)) × ((Int × Int × Int) × (Int × Int × Int) × (Int × Int × Int) × Int × Int × Int) × Int × Int) × ((List ((Int × Int × Int) × (Int × Int × Int) × Int)) × (List ((Int × Int × Int) × (Int × Int × Int) × (Int × Int × Int) × Int)) × (List (Int × Int × Int × Int)) × Int × (List (Int × Int × Int)) × ((Int × Int × Int) × (Int × Int × Int) × (Int × Int × Int) × Int × Int × Int) × Int × Int) × Bool × Int × Unit) := T.ite (decide (x.2.2.2.1 < (↑(List.length x.1.2.2.1) : Int))) (T.opt (lget x.1.2.2.1 x.2.2.2.1) fun y => T.opt (lget x.2.1.2.2.1 x.2.2.2.1) fun y_1 => T.ite (!(y.1 == y_1.fst && (y.2.1 == y_1.snd.fst && (y.2.2.1 == y_1.snd.snd.fst && y.2.2.2 == y_1.snd.snd.snd)))) (T.ret (Ex.ret, x.1, x.2.1, false, x.2.2.2.1, ())) (T.ret (Ex.normal, x.1, x.2.1, x.2.2.1, W (x.2.2.2.1 + (1 : Int)), ()))) (T.ret (Ex.exit (4 : Nat), x.1, x.2.1, x.2.2.1, x.2.2.2.1, ()))
noncomputable def ref22_Same.l4 (x : ((List ((Int × Int × Int) × (Int × Int × Int) × Int)) × (List ((Int × Int × Int) × (Int × Int × Int) × (Int × Int × Int) × Int)) × (List (Int × Int × Int × Int)) × Int × (List (Int × Int × Int)) × ((Int × Int × Int) × (Int × Int × Int) × (Int × Int × Int) × Int × Int × Int) × Int × Int) × ((List ((Int × Int × Int) × (Int × Int × Int) × Int)) × (List ((Int × Int × Int) × (Int × Int × Int) × (Int × Int × Int) × Int)) × (List (Int × Int × Int × Int)) × Int × (List (Int × Int × Int)) × ((Int × Int × Int) × (Int × Int × Int) × (Int × Int × Int) × Int × Int × Int) × Int × Int) × Bool × Int × Unit) : Option (Ex × ((List ((Int × Int × Int) × (Int × Int × Int) × Int)) × (List ((Int × Int × Int) × (Int × Int × Int) × (Int × Int × Int) × Int)) × (List (Int × Int × Int × Int)) × Int × (List (Int × Int × Int)) × ((Int × Int × Int) × (Int × Int × Int) × (Int × Int × Int) × Int × Int × Int) × Int × Int) × ((List ((Int × Int × Int) × (Int × Int × Int) × Int)) × (List ((Int × Int × Int) × (Int × Int × Int) × (Int × Int × Int) × Int)) × (List (Int × Int × Int × Int)) × Int × (List (Int × Int × Int)) × ((Int × Int × Int) × (Int × Int × Int) × (Int × Int × Int) × Int × Int × Int) × Int × Int) × Bool × Int × Unit) := (iterT ref22_Same.t4 rounds x).run
theorem ref22_Same.k4 : bodies 4 (lp Tryd.f12 []) = [.loop (loopIn 4 (lp Tryd.f12 []))] ∧ WP Tryd.prog 0 (.block 4 (.loop (loopIn 4 (lp Tryd.f12 [])))) (loopS ref22_Same.L4 143 4 [.exit 4, .ret] ref22_Same.l4) :=
  loop_tree (L := ref22_Same.L4) (F := ({ quiet := Xs, deep := noDeep } : Fns)) (D := D0) (tab := []) (t := ref22_Same.t4) mixed Xok (deep_none _) (fun _ => rfl) (by kernel_rfl) (by kernel_rfl) trivial (fun x => by kernel_rfl)
def ref22_Same.L6 : List (Nat × Lay) := [(2, .box TScn), (3, .box TScn), (4, .val .bool), (8, .val TI)]
noncomputable def ref22_Same.t6 (x : ((List ((Int × Int × Int) × (Int × Int × Int) × Int)) × (List ((Int × Int × Int) × (Int × Int × Int) × (Int × Int × Int) × Int)) × (List (Int × Int × Int × Int)) × Int × (List (Int × Int × Int)) × ((Int × Int × Int) × (Int × Int × Int) × (Int × Int × Int) × Int × Int × Int) × Int × Int) × ((List ((Int × Int × Int) × (Int × Int × Int) × Int)) × (List ((Int × Int × Int) × (Int × Int × Int) × (Int × Int × Int) × Int)) × (List (Int × Int × Int × Int)) × Int × (List (Int × Int × Int)) × ((Int × Int × Int) × (Int × Int × Int) × (Int × Int × Int) × Int × Int × Int) × Int × Int) × Bool × Int × Unit) : T (Ex × ((List ((Int × Int × Int) × (Int × Int × Int) × Int)) × (List ((Int × Int × Int) × (Int × Int × Int) × (Int × Int × Int) × Int)) × (List (Int × Int × Int × Int)) × Int × (List (Int × Int × Int)) × ((Int × Int × Int) × (Int × Int × Int) × (Int × Int × Int) × Int × Int × Int) × Int × Int) × ((List ((Int × Int × Int) × (Int × Int × Int) × Int)) × (List ((Int × Int × Int) × (Int × Int × Int) × (Int × Int × Int) × Int)) × (List (Int × Int × Int × Int)) × Int × (List (Int × Int × Int)) × ((Int × Int × Int) × (Int × Int × Int) × (Int × Int × Int) × Int × Int × Int) × Int × Int) × Bool × Int × Unit) := T.ite (decide (x.2.2.2.1 < (↑(List.length x.1.2.2.2.2.1) : Int))) (T.opt (lget x.1.2.2.2.2.1 x.2.2.2.1) fun y => T.opt (lget x.2.1.2.2.2.2.1 x.2.2.2.1) fun y_1 => T.ite (!(y.1 == y_1.fst && (y.2.1 == y_1.snd.fst && y.2.2 == y_1.snd.snd))) (T.ret (Ex.ret, x.1, x.2.1, false, x.2.2.2.1, ())) (T.ret (Ex.normal, x.1, x.2.1, x.2.2.1, W (x.2.2.2.1 + (1 : Int)), ()))) (T.ret (Ex.exit (6 : Nat), x.1, x.2.1, x.2.2.1, x.2.2.2.1, ()))
noncomputable def ref22_Same.l6 (x : ((List ((Int × Int × Int) × (Int × Int × Int) × Int)) × (List ((Int × Int × Int) × (Int × Int × Int) × (Int × Int × Int) × Int)) × (List (Int × Int × Int × Int)) × Int × (List (Int × Int × Int)) × ((Int × Int × Int) × (Int × Int × Int) × (Int × Int × Int) × Int × Int × Int) × Int × Int) × ((List ((Int × Int × Int) × (Int × Int × Int) × Int)) × (List ((Int × Int × Int) × (Int × Int × Int) × (Int × Int × Int) × Int)) × (List (Int × Int × Int × Int)) × Int × (List (Int × Int × Int)) × ((Int × Int × Int) × (Int × Int × Int) × (Int × Int × Int) × Int × Int × Int) × Int × Int) × Bool × Int × Unit) : Option (Ex × ((List ((Int × Int × Int) × (Int × Int × Int) × Int)) × (List ((Int × Int × Int) × (Int × Int × Int) × (Int × Int × Int) × Int)) × (List (Int × Int × Int × Int)) × Int × (List (Int × Int × Int)) × ((Int × Int × Int) × (Int × Int × Int) × (Int × Int × Int) × Int × Int × Int) × Int × Int) × ((List ((Int × Int × Int) × (Int × Int × Int) × Int)) × (List ((Int × Int × Int) × (Int × Int × Int) × (Int × Int × Int) × Int)) × (List (Int × Int × Int × Int)) × Int × (List (Int × Int × Int)) × ((Int × Int × Int) × (Int × Int × Int) × (Int × Int × Int) × Int × Int × Int) × Int × Int) × Bool × Int × Unit) := (iterT ref22_Same.t6 rounds x).run
theorem ref22_Same.k6 : bodies 6 (lp Tryd.f12 []) = [.loop (loopIn 6 (lp Tryd.f12 []))] ∧ WP Tryd.prog 0 (.block 6 (.loop (loopIn 6 (lp Tryd.f12 [])))) (loopS ref22_Same.L6 143 6 [.exit 6, .ret] ref22_Same.l6) :=
  loop_tree (L := ref22_Same.L6) (F := ({ quiet := Xs, deep := noDeep } : Fns)) (D := D0) (tab := []) (t := ref22_Same.t6) mixed Xok (deep_none _) (fun _ => rfl) (by kernel_rfl) (by kernel_rfl) trivial (fun x => by kernel_rfl)
noncomputable def ref22_Same.t (x : ((List ((Int × Int × Int) × (Int × Int × Int) × Int)) × (List ((Int × Int × Int) × (Int × Int × Int) × (Int × Int × Int) × Int)) × (List (Int × Int × Int × Int)) × Int × (List (Int × Int × Int)) × ((Int × Int × Int) × (Int × Int × Int) × (Int × Int × Int) × Int × Int × Int) × Int × Int) × ((List ((Int × Int × Int) × (Int × Int × Int) × Int)) × (List ((Int × Int × Int) × (Int × Int × Int) × (Int × Int × Int) × Int)) × (List (Int × Int × Int × Int)) × Int × (List (Int × Int × Int)) × ((Int × Int × Int) × (Int × Int × Int) × (Int × Int × Int) × Int × Int × Int) × Int × Int)) : T (Bool) := T.ite ((↑(List.length x.1.1) : Int) != (↑(List.length x.2.1) : Int) || (↑(List.length x.1.2.1) : Int) != (↑(List.length x.2.2.1) : Int) || (↑(List.length x.1.2.2.1) : Int) != (↑(List.length x.2.2.2.1) : Int) || (↑(List.length x.1.2.2.2.2.1) : Int) != (↑(List.length x.2.2.2.2.2.1) : Int) || x.1.2.2.2.1 != x.2.2.2.2.1 || !(x.1.2.2.2.2.2.1.1.1 == x.2.2.2.2.2.2.1.1.1 && (x.1.2.2.2.2.2.1.1.2.1 == x.2.2.2.2.2.2.1.1.2.1 && x.1.2.2.2.2.2.1.1.2.2 == x.2.2.2.2.2.2.1.1.2.2) && (x.1.2.2.2.2.2.1.2.1.1 == x.2.2.2.2.2.2.1.2.1.1 && (x.1.2.2.2.2.2.1.2.1.2.1 == x.2.2.2.2.2.2.1.2.1.2.1 && x.1.2.2.2.2.2.1.2.1.2.2 == x.2.2.2.2.2.2.1.2.1.2.2) && (x.1.2.2.2.2.2.1.2.2.1.1 == x.2.2.2.2.2.2.1.2.2.1.1 && (x.1.2.2.2.2.2.1.2.2.1.2.1 == x.2.2.2.2.2.2.1.2.2.1.2.1 && x.1.2.2.2.2.2.1.2.2.1.2.2 == x.2.2.2.2.2.2.1.2.2.1.2.2) && (x.1.2.2.2.2.2.1.2.2.2.1 == x.2.2.2.2.2.2.1.2.2.2.1 && (x.1.2.2.2.2.2.1.2.2.2.2.1 == x.2.2.2.2.2.2.1.2.2.2.2.1 && x.1.2.2.2.2.2.1.2.2.2.2.2 == x.2.2.2.2.2.2.1.2.2.2.2.2))))) || x.1.2.2.2.2.2.2.1 != x.2.2.2.2.2.2.2.1 || x.1.2.2.2.2.2.2.2 != x.2.2.2.2.2.2.2.2) (T.ret false) (T.opt (ref22_Same.l0 (x.1, x.2, false, (0 : Int), ())) fun y => T.ite (exEq y.1 (Ex.exit (0 : Nat))) (T.opt (ref22_Same.l2 (y.2.1, y.2.2.1, y.2.2.2.1, (0 : Int), ())) fun y => T.ite (exEq y.1 (Ex.exit (2 : Nat))) (T.opt (ref22_Same.l4 (y.2.1, y.2.2.1, y.2.2.2.1, (0 : Int), ())) fun y => T.ite (exEq y.1 (Ex.exit (4 : Nat))) (T.opt (ref22_Same.l6 (y.2.1, y.2.2.1, y.2.2.2.1, (0 : Int), ())) fun y => T.ite (exEq y.1 (Ex.exit (6 : Nat))) (T.ret true) (T.ite (exEq y.1 Ex.ret) (T.ret y.2.2.2.1) T.fail)) (T.ite (exEq y.1 Ex.ret) (T.ret y.2.2.2.1) T.fail)) (T.ite (exEq y.1 Ex.ret) (T.ret y.2.2.2.1) T.fail)) (T.ite (exEq y.1 Ex.ret) (T.ret y.2.2.2.1) T.fail))
noncomputable def ref22_Same (x : ((List ((Int × Int × Int) × (Int × Int × Int) × Int)) × (List ((Int × Int × Int) × (Int × Int × Int) × (Int × Int × Int) × Int)) × (List (Int × Int × Int × Int)) × Int × (List (Int × Int × Int)) × ((Int × Int × Int) × (Int × Int × Int) × (Int × Int × Int) × Int × Int × Int) × Int × Int) × ((List ((Int × Int × Int) × (Int × Int × Int) × Int)) × (List ((Int × Int × Int) × (Int × Int × Int) × (Int × Int × Int) × Int)) × (List (Int × Int × Int × Int)) × Int × (List (Int × Int × Int)) × ((Int × Int × Int) × (Int × Int × Int) × (Int × Int × Int) × Int × Int × Int) × Int × Int)) : Option (Bool) := (ref22_Same.t x).run
noncomputable def ref22_Same.q : List AV → T AV := entry [TScn, TScn] (outR [.bool]) fun x => .opt (ref22_Same x) .ret
theorem ref22_Same.ok : FnOK Tryd.prog 12 ref22_Same.q :=
  entry_call (ps := [TScn, TScn]) (rs := [.bool]) (F := ({ quiet := Xs, deep := noDeep } : Fns)) (D := D0) (S := tabS [(0, loopS ref22_Same.L0 143 0 [.exit 0, .ret] ref22_Same.l0), (2, loopS ref22_Same.L2 143 2 [.exit 2, .ret] ref22_Same.l2), (4, loopS ref22_Same.L4 143 4 [.exit 4, .ret] ref22_Same.l4), (6, loopS ref22_Same.L6 143 6 [.exit 6, .ret] ref22_Same.l6)]) (t := ref22_Same.t) mixed Xok (deep_none _) Tryd.func12 (by kernel_rfl) (sok_fn ⟨ref22_Same.k0, ref22_Same.k2, ref22_Same.k4, ref22_Same.k6, trivial⟩) (by kernel_rfl) (fun x => by kernel_rfl)
end Go.Proofs.Pen

namespace Go.Proofs.Pen
open Go Go.Proofs

theorem errIs_eq (e : ErrD) (c : Int) (hn : e.isNil = false) (h : e.depth ≤ 1000) : errors_Is (e, c) = some (e.has c) := by
  have h1 : errors_is (e, c, true) = some (e.has c) := by
    obtain ⟨e', he⟩ := is_run c false e rounds (rounds_gt (by omega))
    unfold errors_is errors_is.t
    dsimp only
    have hl : errors_is.l0 (e, c, true, false, ()) = some (.ret, e', c, true, e.has c, ()) := he
    rw [tr_opt, hl, Option.bind_some, tr_ite, if_pos (by rfl), tr_ret]
  unfold errors_Is errors_Is.t
  dsimp only
  rw [tr_ite, hn, if_neg (by simp), tr_opt, h1, Option.bind_some, tr_ret]

theorem Broken_eq (e : ErrD) (hn : e.isNil = false) (h : e.depth ≤ 1000) : merge_Broken e = some (e.has 11 || e.has 10) := by
  unfold merge_Broken merge_Broken.t
  rw [tr_opt, errIs_eq e 11 hn h, Option.bind_some, tr_ite, tr_ret, tr_opt, errIs_eq e 10 hn h, Option.bind_some, tr_ret]
  cases e.has 11 <;> simp

theorem wrong_eq {w : W3} (h : codeOK w) : law48_wrong (mkErr (some w), mkW (some w)) = some true := by
  have hi : fault_Is (mkErr (some w), w.2.1) = some true := by
    rw [mkErr_mkR, Is_eq _ _ (by rw [depth_mkR]; simp), has_mkR]
    simp
  have hb : merge_Broken (mkErr (some w)) = some true := by
    rw [mkErr_mkR, Broken_eq _ rfl (by rw [depth_mkR]; simp), has_mkR, has_mkR]
    obtain ⟨h1 | h1, _⟩ := h <;> simp [h1]
  unfold law48_wrong law48_wrong.t
  dsimp only [mkW]
  rw [tr_yes (show (!ErrD.isNil (mkErr (some w))) = true from rfl), tr_yes (show ((mkErr (some w)).top == w.1) = true from beq_self_eq_true w.1), tr_opt, hi, Option.bind_some, tr_yes rfl, tr_opt, hb, Option.bind_some, tr_ret]

/-! ### Scenes that may be -/
def matG (m : MatT) : Prop := matW m 0 = none
def triG (n : Int) (t : TriT) : Prop := 0 ≤ t.2.2.2 ∧ t.2.2.2 < n ∧ (in3 t.1 (-1048576) 1048576 && in3 t.2.1 (-1048576) 1048576 && in3 t.2.2.1 (-1048576) 1048576) = true ∧ flatB (lessW t.2.1 t.1) (lessW t.2.2.1 t.1) = false
def litG (n : Int) (l : LitT) : Prop := 0 ≤ l.1 ∧ l.1 < n ∧ in3 l.2 0 67108863 = true
def okS (x : ScT) : Prop := bigB x = false ∧ (∀ m ∈ x.1, matG m) ∧ (∀ t ∈ x.2.1, triG x.1.length t) ∧ (∀ l ∈ x.2.2.1, litG x.2.1.length l) ∧ (x.2.2.1.Pairwise fun a b => a.1 ≠ b.1) ∧
  (0 ≤ x.2.2.2.1 ∧ (x.2.2.2.2.1.length : Int) = 8 * x.2.2.2.1) ∧ (∀ c ∈ x.2.2.2.2.1, in3 c 0 67108863 = true) ∧ camW x = none

theorem firstF_none_iff {f : Nat → Option W3} {n : Nat} : (firstF f 0 n).map (·.2) = none ↔ ∀ i, i < n → f i = none := by
  constructor
  · intro h i hi
    have h : firstF f 0 n = none := by simpa using h
    exact firstF_none h i (Nat.zero_le _) (by omega)
  · intro h
    cases hf : firstF f 0 n with
    | none => rfl
    | some p =>
      obtain ⟨i, w⟩ := p
      obtain ⟨_, h2, h3⟩ := firstF_some hf
      rw [h i (by omega)] at h3
      cases h3

theorem matW_none {m : MatT} {p : Int} : matW m p = none ↔ matG m := by
  unfold matG matW
  split
  · simp
  · split <;> simp

theorem triW_none {n : Int} {t : TriT} {p : Int} : triW n t p = none ↔ triG n t := by
  unfold triG triW
  by_cases h : 0 ≤ t.2.2.2 ∧ t.2.2.2 < n
  · rw [if_neg (by simp; omega)]
    generalize (in3 t.1 (-1048576) 1048576 && in3 t.2.1 (-1048576) 1048576 && in3 t.2.2.1 (-1048576) 1048576) = q1
    generalize flatB (lessW t.2.1 t.1) (lessW t.2.2.1 t.1) = q2
    cases q1 <;> cases q2 <;> simp [h.1, h.2]
  · rw [if_pos (by simp; omega)]
    constructor
    · intro hh; cases hh
    · rintro ⟨h1, h2, _⟩; exact absurd ⟨h1, h2⟩ h

theorem litW_none {n : Int} {a : List LitT} {t : LitT} {p : Int} : litW n a t p = none ↔ litG n t ∧ ∀ y ∈ a, y.1 ≠ t.1 := by
  unfold litG litW
  by_cases h : (decide (t.1 < 0) || decide (t.1 ≥ n) || a.any fun y => t.1 == y.1) = true
  · rw [if_pos h]
    constructor
    · intro hh; cases hh
    · rintro ⟨⟨h1, h2, _⟩, h3⟩
      simp only [Bool.or_eq_true, decide_eq_true_eq, List.any_eq_true, beq_iff_eq] at h
      rcases h with (h | h) | ⟨y, hy, h⟩
      · omega
      · omega
      · exact absurd h.symm (h3 y hy)
  · rw [if_neg h]
    simp only [Bool.or_eq_true, decide_eq_true_eq, List.any_eq_true, beq_iff_eq, not_or, not_exists, not_and] at h
    obtain ⟨⟨h1, h2⟩, h3⟩ := h
    split
    · rename_i h4
      constructor
      · intro hh; cases hh
      · rintro ⟨⟨_, _, h5⟩, _⟩; rw [h4] at h5; cases h5
    · rename_i h4
      constructor
      · intro _; exact ⟨⟨by omega, by omega, nf h4⟩, fun y hy hh => h3 y hy hh.symm⟩
      · intro _; rfl

theorem celW_none {c : W3} {p : Int} : celW c p = none ↔ in3 c 0 67108863 = true := by
  unfold celW
  split
  · rename_i h; simp [h]
  · rename_i h; simp [nf h]

theorem orElse_none {a b : Option W3} : orElse' a b = none ↔ a = none ∧ b = none := by
  cases a <;> simp [orElse']

theorem wr_none {x : ScT} : wr x = none ↔ okS x := by
  unfold wr okS
  by_cases hb : bigB x = true
  · rw [if_pos hb, hb]; simp
  rw [if_neg hb]
  have hb' : bigB x = false := by simpa using hb
  have hz : x.2.2.2.1 ≤ 16 := by
    unfold bigB at hb'
    simp only [Bool.or_eq_false_iff, decide_eq_false_iff_not] at hb'
    omega
  rw [orElse_none, orElse_none, orElse_none, orElse_none]
  unfold wM wT wL
  rw [firstF_none_iff, firstF_none_iff, firstF_none_iff]
  have eM : (∀ i, i < x.1.length → fM x i = none) ↔ ∀ m ∈ x.1, matG m := by
    constructor
    · intro h m hm
      obtain ⟨i, hi, rfl⟩ := List.getElem_of_mem hm
      have := h i hi
      unfold fM at this
      rw [List.getElem?_eq_getElem hi, Option.bind_some] at this
      exact matW_none.1 this
    · intro h i hi
      unfold fM
      rw [List.getElem?_eq_getElem hi, Option.bind_some]
      exact matW_none.2 (h _ (List.getElem_mem hi))
  have eT : (∀ i, i < x.2.1.length → fT x i = none) ↔ ∀ t ∈ x.2.1, triG x.1.length t := by
    constructor
    · intro h m hm
      obtain ⟨i, hi, rfl⟩ := List.getElem_of_mem hm
      have := h i hi
      unfold fT at this
      rw [List.getElem?_eq_getElem hi, Option.bind_some] at this
      exact triW_none.1 this
    · intro h i hi
      unfold fT
      rw [List.getElem?_eq_getElem hi, Option.bind_some]
      exact triW_none.2 (h _ (List.getElem_mem hi))
  have eL : (∀ i, i < x.2.2.1.length → fL x i = none) ↔ (∀ l ∈ x.2.2.1, litG x.2.1.length l) ∧ (x.2.2.1.Pairwise fun a b => a.1 ≠ b.1) := by
    rw [List.pairwise_iff_getElem]
    constructor
    · intro h
      have h' : ∀ i (hi : i < x.2.2.1.length), litG x.2.1.length x.2.2.1[i] ∧ ∀ y ∈ x.2.2.1.take i, y.1 ≠ x.2.2.1[i].1 := by
        intro i hi
        have := h i hi
        unfold fL at this
        rw [List.getElem?_eq_getElem hi, Option.bind_some] at this
        exact litW_none.1 this
      refine ⟨fun m hm => ?_, fun i j hi hj hij => ?_⟩
      · obtain ⟨i, hi, rfl⟩ := List.getElem_of_mem hm
        exact (h' i hi).1
      · refine (h' j hj).2 x.2.2.1[i] ?_
        rw [List.mem_take_iff_getElem]
        exact ⟨i, by omega, rfl⟩
    · rintro ⟨h1, h2⟩ i hi
      unfold fL
      rw [List.getElem?_eq_getElem hi, Option.bind_some]
      refine litW_none.2 ⟨h1 _ (List.getElem_mem hi), fun y hy => ?_⟩
      rw [List.mem_take_iff_getElem] at hy
      obtain ⟨j, hj, rfl⟩ := hy
      exact h2 j i (by omega) hi (by omega)
  have eZ : wZ x = none ↔ (0 ≤ x.2.2.2.1 ∧ (x.2.2.2.2.1.length : Int) = 8 * x.2.2.2.1) ∧ (∀ c ∈ x.2.2.2.2.1, in3 c 0 67108863 = true) := by
    unfold wZ
    by_cases h1 : x.2.2.2.1 < 0
    · rw [if_pos (decide_eq_true h1)]
      constructor
      · intro h; cases h
      · rintro ⟨⟨h, _⟩, _⟩; omega
    rw [if_neg (by simpa using h1), W_id (by omega) (by omega)]
    by_cases h2 : (x.2.2.2.2.1.length : Int) = 8 * x.2.2.2.1
    · rw [if_neg (by simpa using h2)]
      unfold wC
      rw [firstF_none_iff]
      constructor
      · intro h
        refine ⟨⟨by omega, h2⟩, fun m hm => ?_⟩
        obtain ⟨i, hi, rfl⟩ := List.getElem_of_mem hm
        have := h i hi
        unfold fC at this
        rw [List.getElem?_eq_getElem hi, Option.bind_some] at this
        exact celW_none.1 this
      · rintro ⟨_, h⟩ i hi
        unfold fC
        rw [List.getElem?_eq_getElem hi, Option.bind_some]
        exact celW_none.2 (h _ (List.getElem_mem hi))
    · rw [if_pos (by simpa using h2)]
      constructor
      · intro h; cases h
      · rintro ⟨⟨_, h⟩, _⟩; exact absurd h h2
  rw [eM, eT, eL, eZ]
  simp only [hb', true_and, and_assoc]

/-! ### The same scene -/
abbrev ZS : ScT := ([], [], [], 0, [], ((0, 0, 0), (0, 0, 0), (0, 0, 0), 0, 0, 0), 0, 0)

theorem Same_refl (x : ScT) (h : lightB x) : ref22_Same (x, x) = some true := by
  obtain ⟨h1, h2, h3, h4⟩ := h
  have e0 : ref22_Same.l0 (x, x, false, 0, ()) = some (.exit 0, x, x, false, (x.1.length : Int), ()) := by
    have := iter_count (t := ref22_Same.t0) (fun k => (x, x, false, (k : Int), ())) (e := .exit 0) (z := (x, x, false, (x.1.length : Int), ())) (by simp) x.1.length 0 rounds
      (fun k _ hk => by
        have hk : k < x.1.length := by omega
        unfold ref22_Same.t0
        simp only [tr_ite, tr_ret, tr_opt, decide_eq_true_eq]
        rw [if_pos (by omega), lget_nat _ hk, Option.bind_some, Option.bind_some, if_neg (by simp), W_succ (by omega)])
      (by
        unfold ref22_Same.t0
        simp only [tr_ite, tr_ret, decide_eq_true_eq]
        rw [if_neg (by omega), Nat.zero_add])
      (rounds_gt (by omega))
    exact this
  have e2 : ref22_Same.l2 (x, x, false, 0, ()) = some (.exit 2, x, x, false, (x.2.1.length : Int), ()) := by
    have := iter_count (t := ref22_Same.t2) (fun k => (x, x, false, (k : Int), ())) (e := .exit 2) (z := (x, x, false, (x.2.1.length : Int), ())) (by simp) x.2.1.length 0 rounds
      (fun k _ hk => by
        have hk : k < x.2.1.length := by omega
        unfold ref22_Same.t2
        simp only [tr_ite, tr_ret, tr_opt, decide_eq_true_eq]
        rw [if_pos (by omega), lget_nat _ hk, Option.bind_some, Option.bind_some, if_neg (by simp), W_succ (by omega)])
      (by
        unfold ref22_Same.t2
        simp only [tr_ite, tr_ret, decide_eq_true_eq]
        rw [if_neg (by omega), Nat.zero_add])
      (rounds_gt (by omega))
    exact this
  have e4 : ref22_Same.l4 (x, x, false, 0, ()) = some (.exit 4, x, x, false, (x.2.2.1.length : Int), ()) := by
    have := iter_count (t := ref22_Same.t4) (fun k => (x, x, false, (k : Int), ())) (e := .exit 4) (z := (x, x, false, (x.2.2.1.length : Int), ())) (by simp) x.2.2.1.length 0 rounds
      (fun k _ hk => by
        have hk : k < x.2.2.1.length := by omega
        unfold ref22_Same.t4
        simp only [tr_ite, tr_ret, tr_opt, decide_eq_true_eq]
        rw [if_pos (by omega), lget_nat _ hk, Option.bind_some, Option.bind_some, if_neg (by simp), W_succ (by omega)])
      (by
        unfold ref22_Same.t4
        simp only [tr_ite, tr_ret, decide_eq_true_eq]
        rw [if_neg (by omega), Nat.zero_add])
      (rounds_gt (by omega))
    exact this
  have e6 : ref22_Same.l6 (x, x, false, 0, ()) = some (.exit 6, x, x, false, (x.2.2.2.2.1.length : Int), ()) := by
    have := iter_count (t := ref22_Same.t6) (fun k => (x, x, false, (k : Int), ())) (e := .exit 6) (z := (x, x, false, (x.2.2.2.2.1.length : Int), ())) (by simp) x.2.2.2.2.1.length 0 rounds
      (fun k _ hk => by
        have hk : k < x.2.2.2.2.1.length := by omega
        unfold ref22_Same.t6
        simp only [tr_ite, tr_ret, tr_opt, decide_eq_true_eq]
        rw [if_pos (by omega), lget_nat _ hk, Option.bind_some, Option.bind_some, if_neg (by simp), W_succ (by omega)])
      (by
        unfold ref22_Same.t6
        simp only [tr_ite, tr_ret, decide_eq_true_eq]
        rw [if_neg (by omega), Nat.zero_add])
      (rounds_gt (by omega))
    exact this
  unfold ref22_Same ref22_Same.t
  dsimp only
  rw [tr_ite, if_neg (by simp), tr_opt, e0, Option.bind_some]
  dsimp only
  rw [tr_ite, if_pos (show exEq (.exit 0) (.exit 0) = true from rfl), tr_opt, e2, Option.bind_some]
  dsimp only
  rw [tr_ite, if_pos (show exEq (.exit 2) (.exit 2) = true from rfl), tr_opt, e4, Option.bind_some]
  dsimp only
  rw [tr_ite, if_pos (show exEq (.exit 4) (.exit 4) = true from rfl), tr_opt, e6, Option.bind_some]
  dsimp only
  rw [tr_ite, if_pos (show exEq (.exit 6) (.exit 6) = true from rfl), tr_ret]

theorem lightZ : lightB ZS := by unfold lightB; simp
theorem map_takeS {α β : Type} (f : α → β) (l : List α) {k : Nat} (h : k < l.length) : (l.take k).map f ++ [f l[k]] = (l.take (k + 1)).map f := by
  rw [List.take_succ_eq_append_getElem h, List.map_append]; rfl
theorem take_snoc {α : Type} (l : List α) (v : α) : List.take (l.length + 1) (l ++ [v]) = l ++ [v] := List.take_of_length_le (by simp)
theorem small60 {n c : Nat} (h : n ≤ 900) (hc : c ≤ 1000) : n * c ≤ most := by
  have : n * c ≤ 900 * 1000 := Nat.mul_le_mul h hc
  unfold most; omega
theorem triG_up {n m : Int} {t : TriT} (h : triG n t) (hn : n ≤ m) : triG m t := ⟨h.1, by have := h.2.1; omega, h.2.2⟩
theorem litG_up {n m : Int} {t : LitT} (h : litG n t) (hn : n ≤ m) : litG m t := ⟨h.1, by have := h.2.1; omega, h.2.2⟩
theorem cam_same {x y : ScT} (h : x.2.2.2.2.2 = y.2.2.2.2.2) : camW x = camW y := by
  unfold camW
  rw [h]
theorem bigB_false {x : ScT} : bigB x = false ↔ x.1.length ≤ 32 ∧ x.2.1.length ≤ 512 ∧ x.2.2.1.length ≤ 512 ∧ x.2.2.2.1 ≤ 16 := by
  unfold bigB
  simp only [Bool.or_eq_false_iff, decide_eq_false_iff_not]
  omega
theorem mkW_zero {o : Option W3} (h : ∀ w, o = some w → codeOK w) : ((mkW o).1 == 0 && ((mkW o).2.1 == 0 && (mkW o).2.2 == 0)) = o.isNone := by
  cases o with
  | none => rfl
  | some w => exact (h w rfl).zero
theorem lightOf {x : ScT} (h : x.1.length ≤ 40 ∧ x.2.1.length ≤ 60 ∧ x.2.2.1.length ≤ 60 ∧ x.2.2.2.2.1.length ≤ 200) : lightB x := ⟨by omega, by omega, by omega, by omega⟩
theorem part_len {α : Type} (f : α → α) (l : List α) (k : Nat) : ((l.take k).map f ++ l.drop k).length = l.length := by
  rw [List.length_append, List.length_map, List.length_take, List.length_drop]; omega
theorem part_get {α : Type} (f : α → α) (l : List α) {k : Nat} (h : k < l.length) : ((l.take k).map f ++ l.drop k)[0 + Int.toNat (k : Int)]? = some l[k] := by
  have e : ((l.take k).map f).length = k := by rw [List.length_map, List.length_take]; omega
  rw [Int.toNat_natCast, Nat.zero_add, List.getElem?_append_right (by omega), e, Nat.sub_self, List.drop_eq_getElem_cons h]
  rfl
theorem part_set {α : Type} (f : α → α) (l : List α) {k : Nat} (h : k < l.length) : ((l.take k).map f ++ l.drop k).set (0 + Int.toNat (k : Int)) (f l[k]) = (l.take (k + 1)).map f ++ l.drop (k + 1) := by
  have e : ((l.take k).map f).length = k := by rw [List.length_map, List.length_take]; omega
  rw [Int.toNat_natCast, Nat.zero_add, List.set_append_right _ _ (by omega), e, Nat.sub_self, List.drop_eq_getElem_cons h, ← map_takeS f l h, List.append_assoc]
  rfl
end Go.Proofs.Pen

namespace Go.Proofs.Pen
open Go Go.Proofs
noncomputable def law22_Light.t (x : ((List ((Int × Int × Int) × (Int × Int × Int) × Int)) × (List ((Int × Int × Int) × (Int × Int × Int) × (Int × Int × Int) × Int)) × (List (Int × Int × Int × Int)) × Int × (List (Int × Int × Int)) × ((Int × Int × Int) × (Int × Int × Int) × (Int × Int × Int) × Int × Int × Int) × Int × Int)) : T (Bool) := T.ret (decide ((↑(List.length x.1) : Int) ≤ (40 : Int)) && decide ((↑(List.length x.2.1) : Int) ≤ (60 : Int)) && decide ((↑(List.length x.2.2.1) : Int) ≤ (60 : Int)) && decide ((↑(List.length x.2.2.2.2.1) : Int) ≤ (200 : Int)))
noncomputable def law22_Light.q : List AV → T AV := entry [TScn] (outR [.bool]) law22_Light.t
theorem law22_Light.ok : FnOK Tryd.prog 7 law22_Light.q :=
  entry_in (ps := [TScn]) (rs := [.bool]) (F := ({ quiet := Xs, deep := noDeep } : Fns)) (D := D0) (S := tabS []) (t := law22_Light.t) mixed Xok (deep_none _) Tryd.func7 (by kernel_rfl) (sok_fn trivial) (by kernel_rfl) (fun x => by kernel_rfl)
end Go.Proofs.Pen

namespace Go.Proofs.Pen
open Go Go.Proofs
noncomputable def law48_small.t (_ : Unit) : T (((List ((Int × Int × Int) × (Int × Int × Int) × Int)) × (List ((Int × Int × Int) × (Int × Int × Int) × (Int × Int × Int) × Int)) × (List (Int × Int × Int × Int)) × Int × (List (Int × Int × Int)) × ((Int × Int × Int) × (Int × Int × Int) × (Int × Int × Int) × Int × Int × Int) × Int × Int)) := T.ret (List.take (2 : Nat) [(((0 : Int), (0 : Int), (0 : Int)), ((0 : Int), (0 : Int), (0 : Int)), (1 : Int)), (((0 : Int), (0 : Int), (0 : Int)), ((0 : Int), (0 : Int), (0 : Int)), (2 : Int))], List.take (2 : Nat) [(((0 : Int), (0 : Int), (0 : Int)), ((1024 : Int), (0 : Int), (0 : Int)), ((0 : Int), (1024 : Int), (0 : Int)), (0 : Int)), (((0 : Int), (0 : Int), (0 : Int)), ((1024 : Int), (0 : Int), (0 : Int)), ((0 : Int), (1024 : Int), (0 : Int)), (0 : Int))], [((1 : Int), (9 : Int), (0 : Int), (0 : Int))], (0 : Int), [], (((0 : Int), (0 : Int), (1024 : Int)), ((0 : Int), (0 : Int), (0 : Int)), ((0 : Int), (1024 : Int), (0 : Int)), (1024 : Int), (0 : Int), (1024 : Int)), (1 : Int), (512 : Int))
noncomputable def law48_small.q : List AV → T AV := entry [] (outR [TScn]) law48_small.t
theorem law48_small.ok : FnOK Tryd.prog 25 law48_small.q :=
  entry_in (ps := []) (rs := [TScn]) (F := ({ quiet := Xs, deep := noDeep } : Fns)) (D := D0) (S := tabS []) (t := law48_small.t) mixed Xok (deep_none _) Tryd.func25 (by kernel_rfl) (sok_fn trivial) (by kernel_rfl) (fun x => by kernel_rfl)
end Go.Proofs.Pen

namespace Go.Proofs.Pen
open Go Go.Proofs
set_option maxRecDepth 100000
noncomputable def law48_awake.t (_ : Unit) : T (Bool) := T.ret true
noncomputable def law48_awake.q : List AV → T AV := entry [] (outR [.bool]) fun _ => .ret (true : dens [.bool])
theorem law48_awake.ok : FnOK Tryd.prog 8 law48_awake.q := peT_entry mixed (quiet_ext (quiet_ext Xok scene_Check.ok) law48_small.ok) [13, 26, 25] tbOk 100 20 Tryd.func8 (by kernel_rfl) (by kernel_rfl)
end Go.Proofs.Pen

namespace Go.Proofs.Pen
open Go Go.Proofs
noncomputable def merge_Without.deeps : Deeps := { D := [28, 43, 30, 49, 50, 51], C := [], frz := false, S := fun _ _ => noS }
theorem merge_Without.deepsOk : LoopsOK Tryd.prog merge_Without.deeps.S := (loops_none _)
def merge_Without.L0 : List (Nat × Lay) := [(1, .val TI), (4, .box TScn), (7, .obx [.own TMatD, .own TTriD, .own TLitD, .dat TI, .own TP, .dat TCam, .dat TI, .dat TI]), (38, .val (.sl TLitD)), (39, .val TI), (40, .val TI)]
noncomputable def merge_Without.t0 (x : Int × ((List ((Int × Int × Int) × (Int × Int × Int) × Int)) × (List ((Int × Int × Int) × (Int × Int × Int) × (Int × Int × Int) × Int)) × (List (Int × Int × Int × Int)) × Int × (List (Int × Int × Int)) × ((Int × Int × Int) × (Int × Int × Int) × (Int × Int × Int) × Int × Int × Int) × Int × Int) × (List ((Int × Int × Int) × (Int × Int × Int) × Int) × List ((Int × Int × Int) × (Int × Int × Int) × (Int × Int × Int) × Int) × List (Int × Int × Int × Int) × Int × List (Int × Int × Int) × ((Int × Int × Int) × (Int × Int × Int) × (Int × Int × Int) × Int × Int × Int) × Int × Int × Unit) × (List (Int × Int × Int × Int)) × Int × Int × Unit) : T (Ex × Int × ((List ((Int × Int × Int) × (Int × Int × Int) × Int)) × (List ((Int × Int × Int) × (Int × Int × Int) × (Int × Int × Int) × Int)) × (List (Int × Int × Int × Int)) × Int × (List (Int × Int × Int)) × ((Int × Int × Int) × (Int × Int × Int) × (Int × Int × Int) × Int × Int × Int) × Int × Int) × (List ((Int × Int × Int) × (Int × Int × Int) × Int) × List ((Int × Int × Int) × (Int × Int × Int) × (Int × Int × Int) × Int) × List (Int × Int × Int × Int) × Int × List (Int × Int × Int) × ((Int × Int × Int) × (Int × Int × Int) × (Int × Int × Int) × Int × Int × Int) × Int × Int × Unit) × (List (Int × Int × Int × Int)) × Int × Int × Unit) := T.ite (decide (x.2.2.2.2.2.1 < x.2.2.2.2.1)) (T.opt (lget x.2.2.2.1 x.2.2.2.2.2.1) fun y => T.ite (y.1 == x.1) (T.ret (Ex.normal, x.1, x.2.1, (List.take x.2.2.1.1.length x.2.2.1.1, List.take x.2.2.1.2.1.length x.2.2.1.2.1, List.take x.2.2.1.2.2.1.length x.2.2.1.2.2.1, x.2.2.1.2.2.2.1, List.take x.2.2.1.2.2.2.2.1.length x.2.2.1.2.2.2.2.1, x.2.2.1.2.2.2.2.2.1, x.2.2.1.2.2.2.2.2.2.1, x.2.2.1.2.2.2.2.2.2.2.1, ()), x.2.2.2.1, x.2.2.2.2.1, W (x.2.2.2.2.2.1 + (1 : Int)), ())) (T.ite (decide (y.1 > x.1)) (T.ite (decide ((x.2.2.1.2.2.1.length + (1 : Nat)) * nat_lit 32 ≤ most)) (T.ret (Ex.normal, x.1, x.2.1, (List.take x.2.2.1.1.length x.2.2.1.1, List.take x.2.2.1.2.1.length x.2.2.1.2.1, List.take (x.2.2.1.2.2.1.length + (1 : Nat)) (List.take x.2.2.1.2.2.1.length x.2.2.1.2.2.1 ++ [(W (y.1 - (1 : Int)), y.2)]), x.2.2.1.2.2.2.1, List.take x.2.2.1.2.2.2.2.1.length x.2.2.1.2.2.2.2.1, x.2.2.1.2.2.2.2.2.1, x.2.2.1.2.2.2.2.2.2.1, x.2.2.1.2.2.2.2.2.2.2.1, ()), x.2.2.2.1, x.2.2.2.2.1, W (x.2.2.2.2.2.1 + (1 : Int)), ())) T.fail) (T.ite (decide ((x.2.2.1.2.2.1.length + (1 : Nat)) * nat_lit 32 ≤ most)) (T.ret (Ex.normal, x.1, x.2.1, (List.take x.2.2.1.1.length x.2.2.1.1, List.take x.2.2.1.2.1.length x.2.2.1.2.1, List.take (x.2.2.1.2.2.1.length + (1 : Nat)) (List.take x.2.2.1.2.2.1.length x.2.2.1.2.2.1 ++ [y]), x.2.2.1.2.2.2.1, List.take x.2.2.1.2.2.2.2.1.length x.2.2.1.2.2.2.2.1, x.2.2.1.2.2.2.2.2.1, x.2.2.1.2.2.2.2.2.2.1, x.2.2.1.2.2.2.2.2.2.2.1, ()), x.2.2.2.1, x.2.2.2.2.1, W (x.2.2.2.2.2.1 + (1 : Int)), ())) T.fail))) (T.ret (Ex.exit (0 : Nat), x.1, x.2.1, (List.take x.2.2.1.1.length x.2.2.1.1, List.take x.2.2.1.2.1.length x.2.2.1.2.1, List.take x.2.2.1.2.2.1.length x.2.2.1.2.2.1, x.2.2.1.2.2.2.1, List.take x.2.2.1.2.2.2.2.1.length x.2.2.1.2.2.2.2.1, x.2.2.1.2.2.2.2.2.1, x.2.2.1.2.2.2.2.2.2.1, x.2.2.1.2.2.2.2.2.2.2.1, ()), x.2.2.2.1, x.2.2.2.2.1, x.2.2.2.2.2.1, ()))
noncomputable def merge_Without.l0 (x : Int × ((List ((Int × Int × Int) × (Int × Int × Int) × Int)) × (List ((Int × Int × Int) × (Int × Int × Int) × (Int × Int × Int) × Int)) × (List (Int × Int × Int × Int)) × Int × (List (Int × Int × Int)) × ((Int × Int × Int) × (Int × Int × Int) × (Int × Int × Int) × Int × Int × Int) × Int × Int) × (List ((Int × Int × Int) × (Int × Int × Int) × Int) × List ((Int × Int × Int) × (Int × Int × Int) × (Int × Int × Int) × Int) × List (Int × Int × Int × Int) × Int × List (Int × Int × Int) × ((Int × Int × Int) × (Int × Int × Int) × (Int × Int × Int) × Int × Int × Int) × Int × Int × Unit) × (List (Int × Int × Int × Int)) × Int × Int × Unit) : Option (Ex × Int × ((List ((Int × Int × Int) × (Int × Int × Int) × Int)) × (List ((Int × Int × Int) × (Int × Int × Int) × (Int × Int × Int) × Int)) × (List (Int × Int × Int × Int)) × Int × (List (Int × Int × Int)) × ((Int × Int × Int) × (Int × Int × Int) × (Int × Int × Int) × Int × Int × Int) × Int × Int) × (List ((Int × Int × Int) × (Int × Int × Int) × Int) × List ((Int × Int × Int) × (Int × Int × Int) × (Int × Int × Int) × Int) × List (Int × Int × Int × Int) × Int × List (Int × Int × Int) × ((Int × Int × Int) × (Int × Int × Int) × (Int × Int × Int) × Int × Int × Int) × Int × Int × Unit) × (List (Int × Int × Int × Int)) × Int × Int × Unit) := (iterT merge_Without.t0 rounds x).run
theorem merge_Without.k0 : bodies 0 (lp Tryd.f22 []) = [.loop (loopIn 0 (lp Tryd.f22 []))] ∧ WP Tryd.prog 0 (.block 0 (.loop (loopIn 0 (lp Tryd.f22 [])))) (loopS merge_Without.L0 64 0 [.exit 0] merge_Without.l0) :=
  loop_tree (L := merge_Without.L0) (F := (dpT Tryd.prog (ext (ext (ext (ext Xs 26 scene_Check.q) 27 fault_New.q) 68 scene_lights_1.q) 72 scene_within_1.q) merge_Without.deeps tb 100 8)) (D := (inL merge_Without.deeps.D)) (tab := []) (t := merge_Without.t0) mixed (dpT_ok mixed (quiet_ext (quiet_ext (quiet_ext (quiet_ext Xok scene_Check.ok) fault_New.ok) scene_lights_1.ok) scene_within_1.ok) merge_Without.deepsOk tbOk 100 8).1 (dpT_ok mixed (quiet_ext (quiet_ext (quiet_ext (quiet_ext Xok scene_Check.ok) fault_New.ok) scene_lights_1.ok) scene_within_1.ok) merge_Without.deepsOk tbOk 100 8).2 (fun _ => rfl) (by kernel_rfl) (by kernel_rfl) trivial (fun x => by kernel_rfl)
noncomputable def merge_Without.t (x : ((List ((Int × Int × Int) × (Int × Int × Int) × Int)) × (List ((Int × Int × Int) × (Int × Int × Int) × (Int × Int × Int) × Int)) × (List (Int × Int × Int × Int)) × Int × (List (Int × Int × Int)) × ((Int × Int × Int) × (Int × Int × Int) × (Int × Int × Int) × Int × Int × Int) × Int × Int) × Int) : T (((List ((Int × Int × Int) × (Int × Int × Int) × Int)) × (List ((Int × Int × Int) × (Int × Int × Int) × (Int × Int × Int) × Int)) × (List (Int × Int × Int × Int)) × Int × (List (Int × Int × Int)) × ((Int × Int × Int) × (Int × Int × Int) × (Int × Int × Int) × Int × Int × Int) × Int × Int) × ErrD) := T.opt (scene_Check x.1) fun y => T.ite (!y.isNil) (T.ret (([], [], [], (0 : Int), [], (((0 : Int), (0 : Int), (0 : Int)), ((0 : Int), (0 : Int), (0 : Int)), ((0 : Int), (0 : Int), (0 : Int)), (0 : Int), (0 : Int), (0 : Int)), (0 : Int), (0 : Int)), y)) (T.ite (decide (x.2 < (0 : Int)) || decide (x.2 ≥ (↑(List.length x.1.2.1) : Int))) (T.opt (fault_New ((3 : Int), (0 : Int))) fun y => T.ret (([], [], [], (0 : Int), [], (((0 : Int), (0 : Int), (0 : Int)), ((0 : Int), (0 : Int), (0 : Int)), ((0 : Int), (0 : Int), (0 : Int)), (0 : Int), (0 : Int), (0 : Int)), (0 : Int), (0 : Int)), y)) (T.ite (decide (List.length x.1.1 * (56 : Nat) ≤ most)) (T.ite (decide (List.length x.1.2.1 * (80 : Nat) ≤ most)) (T.ite (decide (List.length x.1.2.2.1 * (32 : Nat) ≤ most)) (T.ite (decide (List.length x.1.2.2.2.2.1 * (24 : Nat) ≤ most)) (T.ite (decide (List.length x.1.2.1 = List.length x.1.2.1) && (decide ((0 : Int) ≤ x.2) && (decide (x.2 < (↑(List.length x.1.2.1) : Int)) && decide (W (x.2 + (1 : Int)) = x.2 + (1 : Int))))) (T.opt (merge_Without.l0 (x.2, ([], [], [], (0 : Int), [], (((0 : Int), (0 : Int), (0 : Int)), ((0 : Int), (0 : Int), (0 : Int)), ((0 : Int), (0 : Int), (0 : Int)), (0 : Int), (0 : Int), (0 : Int)), (0 : Int), (0 : Int)), (List.take (List.length x.1.1) x.1.1, List.take (List.length x.1.2.1 - (1 : Nat)) (List.take (Int.toNat x.2) x.1.2.1 ++ List.drop (Int.toNat x.2 + (1 : Nat)) x.1.2.1 ++ [trZ]), [], x.1.2.2.2.1, List.take (List.length x.1.2.2.2.2.1) x.1.2.2.2.2.1, x.1.2.2.2.2.2.1, x.1.2.2.2.2.2.2.1, x.1.2.2.2.2.2.2.2, ()), x.1.2.2.1, (↑(List.length x.1.2.2.1) : Int), (0 : Int), ())) fun y => T.ite (exEq y.1 (Ex.exit (0 : Nat))) (T.ret ((List.take y.2.2.2.1.1.length y.2.2.2.1.1, List.take y.2.2.2.1.2.1.length y.2.2.2.1.2.1, List.take y.2.2.2.1.2.2.1.length y.2.2.2.1.2.2.1, y.2.2.2.1.2.2.2.1, List.take y.2.2.2.1.2.2.2.2.1.length y.2.2.2.1.2.2.2.2.1, y.2.2.2.1.2.2.2.2.2.1, y.2.2.2.1.2.2.2.2.2.2.1, y.2.2.2.1.2.2.2.2.2.2.2.1), ErrD.nil)) T.fail) T.fail) T.fail) T.fail) T.fail) T.fail))
noncomputable def merge_Without (x : ((List ((Int × Int × Int) × (Int × Int × Int) × Int)) × (List ((Int × Int × Int) × (Int × Int × Int) × (Int × Int × Int) × Int)) × (List (Int × Int × Int × Int)) × Int × (List (Int × Int × Int)) × ((Int × Int × Int) × (Int × Int × Int) × (Int × Int × Int) × Int × Int × Int) × Int × Int) × Int) : Option (((List ((Int × Int × Int) × (Int × Int × Int) × Int)) × (List ((Int × Int × Int) × (Int × Int × Int) × (Int × Int × Int) × Int)) × (List (Int × Int × Int × Int)) × Int × (List (Int × Int × Int)) × ((Int × Int × Int) × (Int × Int × Int) × (Int × Int × Int) × Int × Int × Int) × Int × Int) × ErrD) := (merge_Without.t x).run
noncomputable def merge_Without.q : List AV → T AV := entry [TScn, TI] (outR [TScn, TE]) fun x => .opt (merge_Without x) .ret
theorem merge_Without.ok : FnOK Tryd.prog 22 merge_Without.q :=
  entry_call (ps := [TScn, TI]) (rs := [TScn, TE]) (F := (dpT Tryd.prog (ext (ext (ext (ext Xs 26 scene_Check.q) 27 fault_New.q) 68 scene_lights_1.q) 72 scene_within_1.q) merge_Without.deeps tb 100 8)) (D := (inL merge_Without.deeps.D)) (S := tabS [(0, loopS merge_Without.L0 64 0 [.exit 0] merge_Without.l0)]) (t := merge_Without.t) mixed (dpT_ok mixed (quiet_ext (quiet_ext (quiet_ext (quiet_ext Xok scene_Check.ok) fault_New.ok) scene_lights_1.ok) scene_within_1.ok) merge_Without.deepsOk tbOk 100 8).1 (dpT_ok mixed (quiet_ext (quiet_ext (quiet_ext (quiet_ext Xok scene_Check.ok) fault_New.ok) scene_lights_1.ok) scene_within_1.ok) merge_Without.deepsOk tbOk 100 8).2 Tryd.func22 (by kernel_rfl) (sok_fn ⟨merge_Without.k0, trivial⟩) (by kernel_rfl) (fun x => by kernel_rfl)
end Go.Proofs.Pen

namespace Go.Proofs.Pen
open Go Go.Proofs
noncomputable def merge_Order.deeps : Deeps := { D := [28, 30, 49, 50, 51], C := [], frz := false, S := fun _ _ => noS }
theorem merge_Order.deepsOk : LoopsOK Tryd.prog merge_Order.deeps.S := (loops_none _)
def merge_Order.L0 : List (Nat × Lay) := [(2, .box TScn), (4, .box TScn), (5, .val TE), (7, .row TI), (8, .row .bool), (9, .obx [.own TMatD, .own TTriD, .own TLitD, .dat TI, .own TP, .dat TCam, .dat TI, .dat TI]), (37, .val (.sl TI)), (38, .val TI), (39, .val TI)]
noncomputable def merge_Order.t0 (x : ((List ((Int × Int × Int) × (Int × Int × Int) × Int)) × (List ((Int × Int × Int) × (Int × Int × Int) × (Int × Int × Int) × Int)) × (List (Int × Int × Int × Int)) × Int × (List (Int × Int × Int)) × ((Int × Int × Int) × (Int × Int × Int) × (Int × Int × Int) × Int × Int × Int) × Int × Int) × ((List ((Int × Int × Int) × (Int × Int × Int) × Int)) × (List ((Int × Int × Int) × (Int × Int × Int) × (Int × Int × Int) × Int)) × (List (Int × Int × Int × Int)) × Int × (List (Int × Int × Int)) × ((Int × Int × Int) × (Int × Int × Int) × (Int × Int × Int) × Int × Int × Int) × Int × Int) × ErrD × List Int × List Bool × (List ((Int × Int × Int) × (Int × Int × Int) × Int) × List ((Int × Int × Int) × (Int × Int × Int) × (Int × Int × Int) × Int) × List (Int × Int × Int × Int) × Int × List (Int × Int × Int) × ((Int × Int × Int) × (Int × Int × Int) × (Int × Int × Int) × Int × Int × Int) × Int × Int × Unit) × (List (Int)) × Int × Int × Unit) : T (Ex × ((List ((Int × Int × Int) × (Int × Int × Int) × Int)) × (List ((Int × Int × Int) × (Int × Int × Int) × (Int × Int × Int) × Int)) × (List (Int × Int × Int × Int)) × Int × (List (Int × Int × Int)) × ((Int × Int × Int) × (Int × Int × Int) × (Int × Int × Int) × Int × Int × Int) × Int × Int) × ((List ((Int × Int × Int) × (Int × Int × Int) × Int)) × (List ((Int × Int × Int) × (Int × Int × Int) × (Int × Int × Int) × Int)) × (List (Int × Int × Int × Int)) × Int × (List (Int × Int × Int)) × ((Int × Int × Int) × (Int × Int × Int) × (Int × Int × Int) × Int × Int × Int) × Int × Int) × ErrD × List Int × List Bool × (List ((Int × Int × Int) × (Int × Int × Int) × Int) × List ((Int × Int × Int) × (Int × Int × Int) × (Int × Int × Int) × Int) × List (Int × Int × Int × Int) × Int × List (Int × Int × Int) × ((Int × Int × Int) × (Int × Int × Int) × (Int × Int × Int) × Int × Int × Int) × Int × Int × Unit) × (List (Int)) × Int × Int × Unit) := T.ite (decide (x.2.2.2.2.2.2.2.2.1 < x.2.2.2.2.2.2.2.1)) (T.opt (lget x.2.2.2.2.2.2.1 x.2.2.2.2.2.2.2.2.1) fun y => T.ite (decide (y < (0 : Int)) || decide (y ≥ (↑x.2.2.2.1.length : Int))) (T.opt (fault_New ((2 : Int), (0 : Int))) fun y => T.ret (Ex.ret, x.1, ([], [], [], (0 : Int), [], (((0 : Int), (0 : Int), (0 : Int)), ((0 : Int), (0 : Int), (0 : Int)), ((0 : Int), (0 : Int), (0 : Int)), (0 : Int), (0 : Int), (0 : Int)), (0 : Int), (0 : Int)), y, List.take x.2.2.2.1.length x.2.2.2.1, List.take x.2.2.2.2.1.length x.2.2.2.2.1, (List.take x.2.2.2.2.2.1.1.length x.2.2.2.2.2.1.1, List.take x.2.2.2.2.2.1.2.1.length x.2.2.2.2.2.1.2.1, List.take x.2.2.2.2.2.1.2.2.1.length x.2.2.2.2.2.1.2.2.1, x.2.2.2.2.2.1.2.2.2.1, List.take x.2.2.2.2.2.1.2.2.2.2.1.length x.2.2.2.2.2.1.2.2.2.2.1, x.2.2.2.2.2.1.2.2.2.2.2.1, x.2.2.2.2.2.1.2.2.2.2.2.2.1, x.2.2.2.2.2.1.2.2.2.2.2.2.2.1, ()), x.2.2.2.2.2.2.1, x.2.2.2.2.2.2.2.1, x.2.2.2.2.2.2.2.2.1, ())) (T.ite (decide ((0 : Int) ≤ y) && decide (y < (↑x.2.2.2.2.1.length : Int))) (T.opt x.2.2.2.2.1[(0 : Nat) + Int.toNat y]? fun y_1 => T.ite y_1 (T.opt (fault_New ((2 : Int), (0 : Int))) fun y => T.ret (Ex.ret, x.1, ([], [], [], (0 : Int), [], (((0 : Int), (0 : Int), (0 : Int)), ((0 : Int), (0 : Int), (0 : Int)), ((0 : Int), (0 : Int), (0 : Int)), (0 : Int), (0 : Int), (0 : Int)), (0 : Int), (0 : Int)), y, List.take x.2.2.2.1.length x.2.2.2.1, List.take x.2.2.2.2.1.length x.2.2.2.2.1, (List.take x.2.2.2.2.2.1.1.length x.2.2.2.2.2.1.1, List.take x.2.2.2.2.2.1.2.1.length x.2.2.2.2.2.1.2.1, List.take x.2.2.2.2.2.1.2.2.1.length x.2.2.2.2.2.1.2.2.1, x.2.2.2.2.2.1.2.2.2.1, List.take x.2.2.2.2.2.1.2.2.2.2.1.length x.2.2.2.2.2.1.2.2.2.2.1, x.2.2.2.2.2.1.2.2.2.2.2.1, x.2.2.2.2.2.1.2.2.2.2.2.2.1, x.2.2.2.2.2.1.2.2.2.2.2.2.2.1, ()), x.2.2.2.2.2.2.1, x.2.2.2.2.2.2.2.1, x.2.2.2.2.2.2.2.2.1, ())) (T.ite (decide ((0 : Int) ≤ y) && decide (y < (↑x.2.2.2.2.1.length : Int))) (T.opt x.2.2.2.2.1[(0 : Nat) + Int.toNat y]? fun y_2 => T.ite (decide ((0 : Int) ≤ y) && decide (y < (↑x.2.2.2.1.length : Int))) (T.opt x.2.2.2.1[(0 : Nat) + Int.toNat y]? fun y_3 => T.opt (lget x.1.2.1 y) fun y_4 => T.ite (decide ((0 : Int) ≤ x.2.2.2.2.2.2.2.2.1) && decide (x.2.2.2.2.2.2.2.2.1 < (↑x.2.2.2.2.2.1.2.1.length : Int))) (T.opt x.2.2.2.2.2.1.2.1[(0 : Nat) + Int.toNat x.2.2.2.2.2.2.2.2.1]? fun y_5 => T.ret (Ex.normal, x.1, x.2.1, x.2.2.1, List.take x.2.2.2.1.length (x.2.2.2.1.set ((0 : Nat) + Int.toNat y) x.2.2.2.2.2.2.2.2.1), List.take x.2.2.2.2.1.length (x.2.2.2.2.1.set ((0 : Nat) + Int.toNat y) true), (List.take x.2.2.2.2.2.1.1.length x.2.2.2.2.2.1.1, List.take x.2.2.2.2.2.1.2.1.length (x.2.2.2.2.2.1.2.1.set ((0 : Nat) + Int.toNat x.2.2.2.2.2.2.2.2.1) y_4), List.take x.2.2.2.2.2.1.2.2.1.length x.2.2.2.2.2.1.2.2.1, x.2.2.2.2.2.1.2.2.2.1, List.take x.2.2.2.2.2.1.2.2.2.2.1.length x.2.2.2.2.2.1.2.2.2.2.1, x.2.2.2.2.2.1.2.2.2.2.2.1, x.2.2.2.2.2.1.2.2.2.2.2.2.1, x.2.2.2.2.2.1.2.2.2.2.2.2.2.1, ()), x.2.2.2.2.2.2.1, x.2.2.2.2.2.2.2.1, W (x.2.2.2.2.2.2.2.2.1 + (1 : Int)), ())) T.fail) T.fail) T.fail)) T.fail)) (T.ret (Ex.exit (0 : Nat), x.1, x.2.1, x.2.2.1, List.take x.2.2.2.1.length x.2.2.2.1, List.take x.2.2.2.2.1.length x.2.2.2.2.1, (List.take x.2.2.2.2.2.1.1.length x.2.2.2.2.2.1.1, List.take x.2.2.2.2.2.1.2.1.length x.2.2.2.2.2.1.2.1, List.take x.2.2.2.2.2.1.2.2.1.length x.2.2.2.2.2.1.2.2.1, x.2.2.2.2.2.1.2.2.2.1, List.take x.2.2.2.2.2.1.2.2.2.2.1.length x.2.2.2.2.2.1.2.2.2.2.1, x.2.2.2.2.2.1.2.2.2.2.2.1, x.2.2.2.2.2.1.2.2.2.2.2.2.1, x.2.2.2.2.2.1.2.2.2.2.2.2.2.1, ()), x.2.2.2.2.2.2.1, x.2.2.2.2.2.2.2.1, x.2.2.2.2.2.2.2.2.1, ()))
noncomputable def merge_Order.l0 (x : ((List ((Int × Int × Int) × (Int × Int × Int) × Int)) × (List ((Int × Int × Int) × (Int × Int × Int) × (Int × Int × Int) × Int)) × (List (Int × Int × Int × Int)) × Int × (List (Int × Int × Int)) × ((Int × Int × Int) × (Int × Int × Int) × (Int × Int × Int) × Int × Int × Int) × Int × Int) × ((List ((Int × Int × Int) × (Int × Int × Int) × Int)) × (List ((Int × Int × Int) × (Int × Int × Int) × (Int × Int × Int) × Int)) × (List (Int × Int × Int × Int)) × Int × (List (Int × Int × Int)) × ((Int × Int × Int) × (Int × Int × Int) × (Int × Int × Int) × Int × Int × Int) × Int × Int) × ErrD × List Int × List Bool × (List ((Int × Int × Int) × (Int × Int × Int) × Int) × List ((Int × Int × Int) × (Int × Int × Int) × (Int × Int × Int) × Int) × List (Int × Int × Int × Int) × Int × List (Int × Int × Int) × ((Int × Int × Int) × (Int × Int × Int) × (Int × Int × Int) × Int × Int × Int) × Int × Int × Unit) × (List (Int)) × Int × Int × Unit) : Option (Ex × ((List ((Int × Int × Int) × (Int × Int × Int) × Int)) × (List ((Int × Int × Int) × (Int × Int × Int) × (Int × Int × Int) × Int)) × (List (Int × Int × Int × Int)) × Int × (List (Int × Int × Int)) × ((Int × Int × Int) × (Int × Int × Int) × (Int × Int × Int) × Int × Int × Int) × Int × Int) × ((List ((Int × Int × Int) × (Int × Int × Int) × Int)) × (List ((Int × Int × Int) × (Int × Int × Int) × (Int × Int × Int) × Int)) × (List (Int × Int × Int × Int)) × Int × (List (Int × Int × Int)) × ((Int × Int × Int) × (Int × Int × Int) × (Int × Int × Int) × Int × Int × Int) × Int × Int) × ErrD × List Int × List Bool × (List ((Int × Int × Int) × (Int × Int × Int) × Int) × List ((Int × Int × Int) × (Int × Int × Int) × (Int × Int × Int) × Int) × List (Int × Int × Int × Int) × Int × List (Int × Int × Int) × ((Int × Int × Int) × (Int × Int × Int) × (Int × Int × Int) × Int × Int × Int) × Int × Int × Unit) × (List (Int)) × Int × Int × Unit) := (iterT merge_Order.t0 rounds x).run
theorem merge_Order.k0 : bodies 0 (lp Tryd.f23 []) = [.loop (loopIn 0 (lp Tryd.f23 []))] ∧ WP Tryd.prog 0 (.block 0 (.loop (loopIn 0 (lp Tryd.f23 [])))) (loopS merge_Order.L0 97 0 [.exit 0, .ret] merge_Order.l0) :=
  loop_tree (L := merge_Order.L0) (F := (dpT Tryd.prog (ext (ext (ext (ext Xs 26 scene_Check.q) 27 fault_New.q) 68 scene_lights_1.q) 72 scene_within_1.q) merge_Order.deeps tb 100 8)) (D := (inL merge_Order.deeps.D)) (tab := []) (t := merge_Order.t0) mixed (dpT_ok mixed (quiet_ext (quiet_ext (quiet_ext (quiet_ext Xok scene_Check.ok) fault_New.ok) scene_lights_1.ok) scene_within_1.ok) merge_Order.deepsOk tbOk 100 8).1 (dpT_ok mixed (quiet_ext (quiet_ext (quiet_ext (quiet_ext Xok scene_Check.ok) fault_New.ok) scene_lights_1.ok) scene_within_1.ok) merge_Order.deepsOk tbOk 100 8).2 (fun _ => rfl) (by kernel_rfl) (by kernel_rfl) trivial (fun x => by kernel_rfl)
def merge_Order.L2 : List (Nat × Lay) := [(4, .box TScn), (7, .row TI), (9, .obx [.own TMatD, .own TTriD, .own TLitD, .dat TI, .own TP, .dat TCam, .dat TI, .dat TI]), (78, .val (.sl TLitD)), (79, .val TI), (80, .val TI)]
noncomputable def merge_Order.t2 (x : ((List ((Int × Int × Int) × (Int × Int × Int) × Int)) × (List ((Int × Int × Int) × (Int × Int × Int) × (Int × Int × Int) × Int)) × (List (Int × Int × Int × Int)) × Int × (List (Int × Int × Int)) × ((Int × Int × Int) × (Int × Int × Int) × (Int × Int × Int) × Int × Int × Int) × Int × Int) × List Int × (List ((Int × Int × Int) × (Int × Int × Int) × Int) × List ((Int × Int × Int) × (Int × Int × Int) × (Int × Int × Int) × Int) × List (Int × Int × Int × Int) × Int × List (Int × Int × Int) × ((Int × Int × Int) × (Int × Int × Int) × (Int × Int × Int) × Int × Int × Int) × Int × Int × Unit) × (List (Int × Int × Int × Int)) × Int × Int × Unit) : T (Ex × ((List ((Int × Int × Int) × (Int × Int × Int) × Int)) × (List ((Int × Int × Int) × (Int × Int × Int) × (Int × Int × Int) × Int)) × (List (Int × Int × Int × Int)) × Int × (List (Int × Int × Int)) × ((Int × Int × Int) × (Int × Int × Int) × (Int × Int × Int) × Int × Int × Int) × Int × Int) × List Int × (List ((Int × Int × Int) × (Int × Int × Int) × Int) × List ((Int × Int × Int) × (Int × Int × Int) × (Int × Int × Int) × Int) × List (Int × Int × Int × Int) × Int × List (Int × Int × Int) × ((Int × Int × Int) × (Int × Int × Int) × (Int × Int × Int) × Int × Int × Int) × Int × Int × Unit) × (List (Int × Int × Int × Int)) × Int × Int × Unit) := T.ite (decide (x.2.2.2.2.2.1 < x.2.2.2.2.1)) (T.opt (lget x.2.2.2.1 x.2.2.2.2.2.1) fun y => T.ite (decide ((0 : Int) ≤ y.1) && decide (y.1 < (↑x.2.1.length : Int))) (T.opt x.2.1[(0 : Nat) + Int.toNat y.1]? fun y => T.ite (decide ((0 : Int) ≤ x.2.2.2.2.2.1) && decide (x.2.2.2.2.2.1 < (↑x.2.2.1.2.2.1.length : Int))) (T.opt x.2.2.1.2.2.1[(0 : Nat) + Int.toNat x.2.2.2.2.2.1]? fun y_1 => T.ret (Ex.normal, x.1, List.take x.2.1.length x.2.1, (List.take x.2.2.1.1.length x.2.2.1.1, List.take x.2.2.1.2.1.length x.2.2.1.2.1, List.take x.2.2.1.2.2.1.length (x.2.2.1.2.2.1.set ((0 : Nat) + Int.toNat x.2.2.2.2.2.1) (y, y_1.snd)), x.2.2.1.2.2.2.1, List.take x.2.2.1.2.2.2.2.1.length x.2.2.1.2.2.2.2.1, x.2.2.1.2.2.2.2.2.1, x.2.2.1.2.2.2.2.2.2.1, x.2.2.1.2.2.2.2.2.2.2.1, ()), x.2.2.2.1, x.2.2.2.2.1, W (x.2.2.2.2.2.1 + (1 : Int)), ())) T.fail) T.fail) (T.ret (Ex.exit (2 : Nat), x.1, List.take x.2.1.length x.2.1, (List.take x.2.2.1.1.length x.2.2.1.1, List.take x.2.2.1.2.1.length x.2.2.1.2.1, List.take x.2.2.1.2.2.1.length x.2.2.1.2.2.1, x.2.2.1.2.2.2.1, List.take x.2.2.1.2.2.2.2.1.length x.2.2.1.2.2.2.2.1, x.2.2.1.2.2.2.2.2.1, x.2.2.1.2.2.2.2.2.2.1, x.2.2.1.2.2.2.2.2.2.2.1, ()), x.2.2.2.1, x.2.2.2.2.1, x.2.2.2.2.2.1, ()))
noncomputable def merge_Order.l2 (x : ((List ((Int × Int × Int) × (Int × Int × Int) × Int)) × (List ((Int × Int × Int) × (Int × Int × Int) × (Int × Int × Int) × Int)) × (List (Int × Int × Int × Int)) × Int × (List (Int × Int × Int)) × ((Int × Int × Int) × (Int × Int × Int) × (Int × Int × Int) × Int × Int × Int) × Int × Int) × List Int × (List ((Int × Int × Int) × (Int × Int × Int) × Int) × List ((Int × Int × Int) × (Int × Int × Int) × (Int × Int × Int) × Int) × List (Int × Int × Int × Int) × Int × List (Int × Int × Int) × ((Int × Int × Int) × (Int × Int × Int) × (Int × Int × Int) × Int × Int × Int) × Int × Int × Unit) × (List (Int × Int × Int × Int)) × Int × Int × Unit) : Option (Ex × ((List ((Int × Int × Int) × (Int × Int × Int) × Int)) × (List ((Int × Int × Int) × (Int × Int × Int) × (Int × Int × Int) × Int)) × (List (Int × Int × Int × Int)) × Int × (List (Int × Int × Int)) × ((Int × Int × Int) × (Int × Int × Int) × (Int × Int × Int) × Int × Int × Int) × Int × Int) × List Int × (List ((Int × Int × Int) × (Int × Int × Int) × Int) × List ((Int × Int × Int) × (Int × Int × Int) × (Int × Int × Int) × Int) × List (Int × Int × Int × Int) × Int × List (Int × Int × Int) × ((Int × Int × Int) × (Int × Int × Int) × (Int × Int × Int) × Int × Int × Int) × Int × Int × Unit) × (List (Int × Int × Int × Int)) × Int × Int × Unit) := (iterT merge_Order.t2 rounds x).run
theorem merge_Order.k2 : bodies 2 (lp Tryd.f23 []) = [.loop (loopIn 2 (lp Tryd.f23 []))] ∧ WP Tryd.prog 0 (.block 2 (.loop (loopIn 2 (lp Tryd.f23 [])))) (loopS merge_Order.L2 97 2 [.exit 2] merge_Order.l2) :=
  loop_tree (L := merge_Order.L2) (F := (dpT Tryd.prog (ext (ext (ext (ext Xs 26 scene_Check.q) 27 fault_New.q) 68 scene_lights_1.q) 72 scene_within_1.q) merge_Order.deeps tb 100 8)) (D := (inL merge_Order.deeps.D)) (tab := []) (t := merge_Order.t2) mixed (dpT_ok mixed (quiet_ext (quiet_ext (quiet_ext (quiet_ext Xok scene_Check.ok) fault_New.ok) scene_lights_1.ok) scene_within_1.ok) merge_Order.deepsOk tbOk 100 8).1 (dpT_ok mixed (quiet_ext (quiet_ext (quiet_ext (quiet_ext Xok scene_Check.ok) fault_New.ok) scene_lights_1.ok) scene_within_1.ok) merge_Order.deepsOk tbOk 100 8).2 (fun _ => rfl) (by kernel_rfl) (by kernel_rfl) trivial (fun x => by kernel_rfl)
noncomputable def merge_Order.t (x : ((List ((Int × Int × Int) × (Int × Int × Int) × Int)) × (List ((Int × Int × Int) × (Int × Int × Int) × (Int × Int × Int) × Int)) × (List (Int × Int × Int × Int)) × Int × (List (Int × Int × Int)) × ((Int × Int × Int) × (Int × Int × Int) × (Int × Int × Int) × Int × Int × Int) × Int × Int) × (List (Int))) : T (((List ((Int × Int × Int) × (Int × Int × Int) × Int)) × (List ((Int × Int × Int) × (Int × Int × Int) × (Int × Int × Int) × Int)) × (List (Int × Int × Int × Int)) × Int × (List (Int × Int × Int)) × ((Int × Int × Int) × (Int × Int × Int) × (Int × Int × Int) × Int × Int × Int) × Int × Int) × ErrD) := T.opt (scene_Check x.1) fun y => T.ite (!y.isNil) (T.ret (([], [], [], (0 : Int), [], (((0 : Int), (0 : Int), (0 : Int)), ((0 : Int), (0 : Int), (0 : Int)), ((0 : Int), (0 : Int), (0 : Int)), (0 : Int), (0 : Int), (0 : Int)), (0 : Int), (0 : Int)), y)) (T.ite (decide ((0 : Int) ≤ (↑(List.length x.1.2.1) : Int)) && decide ((↑(List.length x.1.2.1) : Int) ≤ (↑(List.length x.1.2.1) : Int)) && decide ((↑(List.length x.1.2.1) : Int) * (↑(nat_lit 8) : Int) ≤ (↑most : Int)) && decide ((↑(List.length x.1.2.1) : Int) ≤ (↑most : Int))) (T.ite (decide ((0 : Int) ≤ (↑(List.length x.1.2.1) : Int)) && decide ((↑(List.length x.1.2.1) : Int) ≤ (↑(List.length x.1.2.1) : Int)) && decide ((↑(List.length x.1.2.1) : Int) * (↑(nat_lit 1) : Int) ≤ (↑most : Int)) && decide ((↑(List.length x.1.2.1) : Int) ≤ (↑most : Int))) (T.ite ((↑(List.length x.2) : Int) != (↑(↑(List.length x.1.2.1) : Int).toNat : Int)) (T.opt (fault_New ((2 : Int), (0 : Int))) fun y => T.ret (([], [], [], (0 : Int), [], (((0 : Int), (0 : Int), (0 : Int)), ((0 : Int), (0 : Int), (0 : Int)), ((0 : Int), (0 : Int), (0 : Int)), (0 : Int), (0 : Int), (0 : Int)), (0 : Int), (0 : Int)), y)) (T.ite (decide (List.length x.1.1 * (56 : Nat) ≤ most)) (T.ite (decide (List.length x.1.2.1 * (80 : Nat) ≤ most)) (T.ite (decide (List.length x.1.2.2.1 * (32 : Nat) ≤ most)) (T.ite (decide (List.length x.1.2.2.2.2.1 * (24 : Nat) ≤ most)) (T.opt (merge_Order.l0 (x.1, ([], [], [], (0 : Int), [], (((0 : Int), (0 : Int), (0 : Int)), ((0 : Int), (0 : Int), (0 : Int)), ((0 : Int), (0 : Int), (0 : Int)), (0 : Int), (0 : Int), (0 : Int)), (0 : Int), (0 : Int)), ErrD.nil, List.take (↑(List.length x.1.2.1) : Int).toNat (List.replicate (↑(List.length x.1.2.1) : Int).toNat (0 : Int)), List.take (↑(List.length x.1.2.1) : Int).toNat (List.replicate (↑(List.length x.1.2.1) : Int).toNat false), (List.take (List.length x.1.1) x.1.1, List.take (List.length x.1.2.1) x.1.2.1, List.take (List.length x.1.2.2.1) x.1.2.2.1, x.1.2.2.2.1, List.take (List.length x.1.2.2.2.2.1) x.1.2.2.2.2.1, x.1.2.2.2.2.2.1, x.1.2.2.2.2.2.2.1, x.1.2.2.2.2.2.2.2, ()), x.2, (↑(List.length x.2) : Int), (0 : Int), ())) fun y => T.ite (exEq y.1 (Ex.exit (0 : Nat))) (T.opt (merge_Order.l2 (y.2.2.1, List.take y.2.2.2.2.1.length y.2.2.2.2.1, (List.take y.2.2.2.2.2.2.1.1.length y.2.2.2.2.2.2.1.1, List.take y.2.2.2.2.2.2.1.2.1.length y.2.2.2.2.2.2.1.2.1, List.take y.2.2.2.2.2.2.1.2.2.1.length y.2.2.2.2.2.2.1.2.2.1, y.2.2.2.2.2.2.1.2.2.2.1, List.take y.2.2.2.2.2.2.1.2.2.2.2.1.length y.2.2.2.2.2.2.1.2.2.2.2.1, y.2.2.2.2.2.2.1.2.2.2.2.2.1, y.2.2.2.2.2.2.1.2.2.2.2.2.2.1, y.2.2.2.2.2.2.1.2.2.2.2.2.2.2.1, ()), y.2.1.2.2.1, (↑(List.length y.2.1.2.2.1) : Int), (0 : Int), ())) fun y => T.ite (exEq y.1 (Ex.exit (2 : Nat))) (T.ret ((List.take y.2.2.2.1.1.length y.2.2.2.1.1, List.take y.2.2.2.1.2.1.length y.2.2.2.1.2.1, List.take y.2.2.2.1.2.2.1.length y.2.2.2.1.2.2.1, y.2.2.2.1.2.2.2.1, List.take y.2.2.2.1.2.2.2.2.1.length y.2.2.2.1.2.2.2.2.1, y.2.2.2.1.2.2.2.2.2.1, y.2.2.2.1.2.2.2.2.2.2.1, y.2.2.2.1.2.2.2.2.2.2.2.1), ErrD.nil)) T.fail) (T.ite (exEq y.1 Ex.ret) (T.ret (y.2.2.1, y.2.2.2.1)) T.fail)) T.fail) T.fail) T.fail) T.fail)) T.fail) T.fail)
noncomputable def merge_Order (x : ((List ((Int × Int × Int) × (Int × Int × Int) × Int)) × (List ((Int × Int × Int) × (Int × Int × Int) × (Int × Int × Int) × Int)) × (List (Int × Int × Int × Int)) × Int × (List (Int × Int × Int)) × ((Int × Int × Int) × (Int × Int × Int) × (Int × Int × Int) × Int × Int × Int) × Int × Int) × (List (Int))) : Option (((List ((Int × Int × Int) × (Int × Int × Int) × Int)) × (List ((Int × Int × Int) × (Int × Int × Int) × (Int × Int × Int) × Int)) × (List (Int × Int × Int × Int)) × Int × (List (Int × Int × Int)) × ((Int × Int × Int) × (Int × Int × Int) × (Int × Int × Int) × Int × Int × Int) × Int × Int) × ErrD) := (merge_Order.t x).run
noncomputable def merge_Order.q : List AV → T AV := entry [TScn, (.sl TI)] (outR [TScn, TE]) fun x => .opt (merge_Order x) .ret
theorem merge_Order.ok : FnOK Tryd.prog 23 merge_Order.q :=
  entry_call (ps := [TScn, (.sl TI)]) (rs := [TScn, TE]) (F := (dpT Tryd.prog (ext (ext (ext (ext Xs 26 scene_Check.q) 27 fault_New.q) 68 scene_lights_1.q) 72 scene_within_1.q) merge_Order.deeps tb 100 8)) (D := (inL merge_Order.deeps.D)) (S := tabS [(0, loopS merge_Order.L0 97 0 [.exit 0, .ret] merge_Order.l0), (2, loopS merge_Order.L2 97 2 [.exit 2] merge_Order.l2)]) (t := merge_Order.t) mixed (dpT_ok mixed (quiet_ext (quiet_ext (quiet_ext (quiet_ext Xok scene_Check.ok) fault_New.ok) scene_lights_1.ok) scene_within_1.ok) merge_Order.deepsOk tbOk 100 8).1 (dpT_ok mixed (quiet_ext (quiet_ext (quiet_ext (quiet_ext Xok scene_Check.ok) fault_New.ok) scene_lights_1.ok) scene_within_1.ok) merge_Order.deepsOk tbOk 100 8).2 Tryd.func23 (by kernel_rfl) (sok_fn ⟨merge_Order.k0, merge_Order.k2, trivial⟩) (by kernel_rfl) (fun x => by kernel_rfl)
end Go.Proofs.Pen

namespace Go.Proofs.Pen
open Go Go.Proofs
def ref48_Light.L0 : List (Nat × Lay) := [(1, .val TI), (2, .box TScn), (4, .box TP), (5, .val .bool), (6, .val TI)]
noncomputable def ref48_Light.t0 (x : Int × ((List ((Int × Int × Int) × (Int × Int × Int) × Int)) × (List ((Int × Int × Int) × (Int × Int × Int) × (Int × Int × Int) × Int)) × (List (Int × Int × Int × Int)) × Int × (List (Int × Int × Int)) × ((Int × Int × Int) × (Int × Int × Int) × (Int × Int × Int) × Int × Int × Int) × Int × Int) × (Int × Int × Int) × Bool × Int × Unit) : T (Ex × Int × ((List ((Int × Int × Int) × (Int × Int × Int) × Int)) × (List ((Int × Int × Int) × (Int × Int × Int) × (Int × Int × Int) × Int)) × (List (Int × Int × Int × Int)) × Int × (List (Int × Int × Int)) × ((Int × Int × Int) × (Int × Int × Int) × (Int × Int × Int) × Int × Int × Int) × Int × Int) × (Int × Int × Int) × Bool × Int × Unit) := T.ite (decide (x.2.2.2.2.1 < (↑(List.length x.2.1.2.2.1) : Int))) (T.opt (lget x.2.1.2.2.1 x.2.2.2.2.1) fun y => T.ite (y.1 == x.1) (T.opt (lget x.2.1.2.2.1 x.2.2.2.2.1) fun y => T.ret (Ex.ret, x.1, x.2.1, y.2, true, x.2.2.2.2.1, ())) (T.ret (Ex.normal, x.1, x.2.1, x.2.2.1, x.2.2.2.1, W (x.2.2.2.2.1 + (1 : Int)), ()))) (T.ret (Ex.exit (0 : Nat), x.1, x.2.1, x.2.2.1, x.2.2.2.1, x.2.2.2.2.1, ()))
noncomputable def ref48_Light.l0 (x : Int × ((List ((Int × Int × Int) × (Int × Int × Int) × Int)) × (List ((Int × Int × Int) × (Int × Int × Int) × (Int × Int × Int) × Int)) × (List (Int × Int × Int × Int)) × Int × (List (Int × Int × Int)) × ((Int × Int × Int) × (Int × Int × Int) × (Int × Int × Int) × Int × Int × Int) × Int × Int) × (Int × Int × Int) × Bool × Int × Unit) : Option (Ex × Int × ((List ((Int × Int × Int) × (Int × Int × Int) × Int)) × (List ((Int × Int × Int) × (Int × Int × Int) × (Int × Int × Int) × Int)) × (List (Int × Int × Int × Int)) × Int × (List (Int × Int × Int)) × ((Int × Int × Int) × (Int × Int × Int) × (Int × Int × Int) × Int × Int × Int) × Int × Int) × (Int × Int × Int) × Bool × Int × Unit) := (iterT ref48_Light.t0 rounds x).run
theorem ref48_Light.k0 : bodies 0 (lp Tryd.f41 []) = [.loop (loopIn 0 (lp Tryd.f41 []))] ∧ WP Tryd.prog 0 (.block 0 (.loop (loopIn 0 (lp Tryd.f41 [])))) (loopS ref48_Light.L0 29 0 [.exit 0, .ret] ref48_Light.l0) :=
  loop_tree (L := ref48_Light.L0) (F := ({ quiet := Xs, deep := noDeep } : Fns)) (D := D0) (tab := []) (t := ref48_Light.t0) mixed Xok (deep_none _) (fun _ => rfl) (by kernel_rfl) (by kernel_rfl) trivial (fun x => by kernel_rfl)
noncomputable def ref48_Light.t (x : ((List ((Int × Int × Int) × (Int × Int × Int) × Int)) × (List ((Int × Int × Int) × (Int × Int × Int) × (Int × Int × Int) × Int)) × (List (Int × Int × Int × Int)) × Int × (List (Int × Int × Int)) × ((Int × Int × Int) × (Int × Int × Int) × (Int × Int × Int) × Int × Int × Int) × Int × Int) × Int) : T ((Int × Int × Int) × Bool) := T.opt (ref48_Light.l0 (x.2, x.1, ((0 : Int), (0 : Int), (0 : Int)), false, (0 : Int), ())) fun y => T.ite (exEq y.1 (Ex.exit (0 : Nat))) (T.ret (((0 : Int), (0 : Int), (0 : Int)), false)) (T.ite (exEq y.1 Ex.ret) (T.ret (y.2.2.2.1, y.2.2.2.2.1)) T.fail)
noncomputable def ref48_Light (x : ((List ((Int × Int × Int) × (Int × Int × Int) × Int)) × (List ((Int × Int × Int) × (Int × Int × Int) × (Int × Int × Int) × Int)) × (List (Int × Int × Int × Int)) × Int × (List (Int × Int × Int)) × ((Int × Int × Int) × (Int × Int × Int) × (Int × Int × Int) × Int × Int × Int) × Int × Int) × Int) : Option ((Int × Int × Int) × Bool) := (ref48_Light.t x).run
noncomputable def ref48_Light.q : List AV → T AV := entry [TScn, TI] (outR [TP, .bool]) fun x => .opt (ref48_Light x) .ret
theorem ref48_Light.ok : FnOK Tryd.prog 41 ref48_Light.q :=
  entry_call (ps := [TScn, TI]) (rs := [TP, .bool]) (F := ({ quiet := Xs, deep := noDeep } : Fns)) (D := D0) (S := tabS [(0, loopS ref48_Light.L0 29 0 [.exit 0, .ret] ref48_Light.l0)]) (t := ref48_Light.t) mixed Xok (deep_none _) Tryd.func41 (by kernel_rfl) (sok_fn ⟨ref48_Light.k0, trivial⟩) (by kernel_rfl) (fun x => by kernel_rfl)
end Go.Proofs.Pen

namespace Go.Proofs.Pen
open Go Go.Proofs
noncomputable def ref48_Alike.t (x : ((List ((Int × Int × Int) × (Int × Int × Int) × Int)) × (List ((Int × Int × Int) × (Int × Int × Int) × (Int × Int × Int) × Int)) × (List (Int × Int × Int × Int)) × Int × (List (Int × Int × Int)) × ((Int × Int × Int) × (Int × Int × Int) × (Int × Int × Int) × Int × Int × Int) × Int × Int) × Int × ((List ((Int × Int × Int) × (Int × Int × Int) × Int)) × (List ((Int × Int × Int) × (Int × Int × Int) × (Int × Int × Int) × Int)) × (List (Int × Int × Int × Int)) × Int × (List (Int × Int × Int)) × ((Int × Int × Int) × (Int × Int × Int) × (Int × Int × Int) × Int × Int × Int) × Int × Int) × Int) : T (Bool) := T.opt (lget x.1.2.1 x.2.1) fun y => T.opt (lget x.2.2.1.2.1 x.2.2.2) fun y_1 => T.opt (ref48_Light (x.1, x.2.1)) fun y_2 => T.opt (ref48_Light x.2.2) fun y_3 => T.ite (y.1.1 == y_1.fst.fst && (y.1.2.1 == y_1.fst.snd.fst && y.1.2.2 == y_1.fst.snd.snd) && (y.2.1.1 == y_1.snd.fst.fst && (y.2.1.2.1 == y_1.snd.fst.snd.fst && y.2.1.2.2 == y_1.snd.fst.snd.snd)) && (y.2.2.1.1 == y_1.snd.snd.fst.fst && (y.2.2.1.2.1 == y_1.snd.snd.fst.snd.fst && y.2.2.1.2.2 == y_1.snd.snd.fst.snd.snd))) (T.opt (lget x.1.1 y.2.2.2) fun y => T.opt (lget x.2.2.1.1 y_1.snd.snd.snd) fun y_4 => T.ret (y.1.1 == y_4.fst.fst && (y.1.2.1 == y_4.fst.snd.fst && y.1.2.2 == y_4.fst.snd.snd) && (y.2.1.1 == y_4.snd.fst.fst && (y.2.1.2.1 == y_4.snd.fst.snd.fst && y.2.1.2.2 == y_4.snd.fst.snd.snd) && y.2.2 == y_4.snd.snd) && (y_2.fst.fst == y_3.fst.fst && (y_2.fst.snd.fst == y_3.fst.snd.fst && y_2.fst.snd.snd == y_3.fst.snd.snd)) && y_2.snd == y_3.snd)) (T.ret false)
noncomputable def ref48_Alike (x : ((List ((Int × Int × Int) × (Int × Int × Int) × Int)) × (List ((Int × Int × Int) × (Int × Int × Int) × (Int × Int × Int) × Int)) × (List (Int × Int × Int × Int)) × Int × (List (Int × Int × Int)) × ((Int × Int × Int) × (Int × Int × Int) × (Int × Int × Int) × Int × Int × Int) × Int × Int) × Int × ((List ((Int × Int × Int) × (Int × Int × Int) × Int)) × (List ((Int × Int × Int) × (Int × Int × Int) × (Int × Int × Int) × Int)) × (List (Int × Int × Int × Int)) × Int × (List (Int × Int × Int)) × ((Int × Int × Int) × (Int × Int × Int) × (Int × Int × Int) × Int × Int × Int) × Int × Int) × Int) : Option (Bool) := (ref48_Alike.t x).run
noncomputable def ref48_Alike.q : List AV → T AV := entry [TScn, TI, TScn, TI] (outR [.bool]) fun x => .opt (ref48_Alike x) .ret
theorem ref48_Alike.ok : FnOK Tryd.prog 17 ref48_Alike.q :=
  entry_call (ps := [TScn, TI, TScn, TI]) (rs := [.bool]) (F := ({ quiet := (ext Xs 41 ref48_Light.q), deep := noDeep } : Fns)) (D := D0) (S := tabS []) (t := ref48_Alike.t) mixed (quiet_ext Xok ref48_Light.ok) (deep_none _) Tryd.func17 (by kernel_rfl) (sok_fn trivial) (by kernel_rfl) (fun x => by kernel_rfl)
end Go.Proofs.Pen

namespace Go.Proofs.Pen
open Go Go.Proofs
def ref41_Right.L2 : List (Nat × Lay) := [(0, .val (.sl TI)), (2, .val .bool), (3, .val TI), (4, .val TI), (5, .val TI)]
noncomputable def ref41_Right.t2 (x : (List (Int)) × Bool × Int × Int × Int × Unit) : T (Ex × (List (Int)) × Bool × Int × Int × Int × Unit) := T.ite (decide (x.2.2.2.2.1 < (↑(List.length x.1) : Int))) (T.opt (lget x.1 x.2.2.2.2.1) fun y => T.ite (y == x.2.2.1) (T.ret (Ex.normal, x.1, x.2.1, x.2.2.1, W (x.2.2.2.1 + (1 : Int)), W (x.2.2.2.2.1 + (1 : Int)), ())) (T.ret (Ex.normal, x.1, x.2.1, x.2.2.1, x.2.2.2.1, W (x.2.2.2.2.1 + (1 : Int)), ()))) (T.ret (Ex.exit (2 : Nat), x.1, x.2.1, x.2.2.1, x.2.2.2.1, x.2.2.2.2.1, ()))
noncomputable def ref41_Right.l2 (x : (List (Int)) × Bool × Int × Int × Int × Unit) : Option (Ex × (List (Int)) × Bool × Int × Int × Int × Unit) := (iterT ref41_Right.t2 rounds x).run
theorem ref41_Right.k2 : bodies 2 (lp Tryd.f24 [0]) = [.loop (loopIn 2 (lp Tryd.f24 [0]))] ∧ WP Tryd.prog 0 (.block 2 (.loop (loopIn 2 (lp Tryd.f24 [0])))) (loopS ref41_Right.L2 28 2 [.exit 2] ref41_Right.l2) :=
  loop_tree (L := ref41_Right.L2) (F := ({ quiet := Xs, deep := noDeep } : Fns)) (D := D0) (tab := []) (t := ref41_Right.t2) mixed Xok (deep_none _) (fun _ => rfl) (by kernel_rfl) (by kernel_rfl) trivial (fun x => by kernel_rfl)
def ref41_Right.L0 : List (Nat × Lay) := [(0, .val (.sl TI)), (2, .val .bool), (3, .val TI)]
noncomputable def ref41_Right.t0 (x : (List (Int)) × Bool × Int × Unit) : T (Ex × (List (Int)) × Bool × Int × Unit) := T.ite (decide (x.2.2.1 < (↑(List.length x.1) : Int))) (T.opt (ref41_Right.l2 (x.1, x.2.1, x.2.2.1, (0 : Int), (0 : Int), ())) fun y => T.ite (exEq y.1 (Ex.exit (2 : Nat))) (T.ite (y.2.2.2.2.1 != (1 : Int)) (T.ret (Ex.ret, y.2.1, false, y.2.2.2.1, ())) (T.ret (Ex.normal, y.2.1, y.2.2.1, W (y.2.2.2.1 + (1 : Int)), ()))) T.fail) (T.ret (Ex.exit (0 : Nat), x.1, x.2.1, x.2.2.1, ()))
noncomputable def ref41_Right.l0 (x : (List (Int)) × Bool × Int × Unit) : Option (Ex × (List (Int)) × Bool × Int × Unit) := (iterT ref41_Right.t0 rounds x).run
theorem ref41_Right.k0 : bodies 0 (lp Tryd.f24 []) = [.loop (loopIn 0 (lp Tryd.f24 []))] ∧ WP Tryd.prog 0 (.block 0 (.loop (loopIn 0 (lp Tryd.f24 [])))) (loopS ref41_Right.L0 28 0 [.exit 0, .ret] ref41_Right.l0) :=
  loop_tree (L := ref41_Right.L0) (F := ({ quiet := Xs, deep := noDeep } : Fns)) (D := D0) (tab := [(2, loopS ref41_Right.L2 28 2 [.exit 2] ref41_Right.l2)]) (t := ref41_Right.t0) mixed Xok (deep_none _) (fun _ => rfl) (by kernel_rfl) (by kernel_rfl) ⟨ref41_Right.k2, trivial⟩ (fun x => by kernel_rfl)
noncomputable def ref41_Right.t (x : (List (Int))) : T (Bool) := T.opt (ref41_Right.l0 (x, false, (0 : Int), ())) fun y => T.ite (exEq y.1 (Ex.exit (0 : Nat))) (T.ret true) (T.ite (exEq y.1 Ex.ret) (T.ret y.2.2.1) T.fail)
noncomputable def ref41_Right (x : (List (Int))) : Option (Bool) := (ref41_Right.t x).run
noncomputable def ref41_Right.q : List AV → T AV := entry [(.sl TI)] (outR [.bool]) fun x => .opt (ref41_Right x) .ret
theorem ref41_Right.ok : FnOK Tryd.prog 24 ref41_Right.q :=
  entry_call (ps := [(.sl TI)]) (rs := [.bool]) (F := ({ quiet := Xs, deep := noDeep } : Fns)) (D := D0) (S := tabS [(0, loopS ref41_Right.L0 28 0 [.exit 0, .ret] ref41_Right.l0)]) (t := ref41_Right.t) mixed Xok (deep_none _) Tryd.func24 (by kernel_rfl) (sok_fn ⟨ref41_Right.k0, trivial⟩) (by kernel_rfl) (fun x => by kernel_rfl)
end Go.Proofs.Pen

namespace Go.Proofs.Pen
open Go Go.Proofs
noncomputable def merge_Join_1.t (x : Int × Int) : T (Int) := T.ret (W (x.1 + x.2))
noncomputable def merge_Join_1.q : List AV → T AV := entry [TI, TI] (outR [TI]) merge_Join_1.t
theorem merge_Join_1.ok : FnOK Tryd.prog 29 merge_Join_1.q :=
  entry_in (ps := [TI, TI]) (rs := [TI]) (F := ({ quiet := Xs, deep := noDeep } : Fns)) (D := D0) (S := tabS []) (t := merge_Join_1.t) mixed Xok (deep_none _) Tryd.func29 (by kernel_rfl) (sok_fn trivial) (by kernel_rfl) (fun x => by kernel_rfl)
end Go.Proofs.Pen

namespace Go.Proofs.Pen
open Go Go.Proofs
def law48_MergeWithout.L0 : List (Nat × Lay) := [(1, .val TI), (2, .val (.sl TI)), (3, .box TScn), (6, .val .bool), (7, .box TScn), (9, .box TScn), (10, .val TE), (12, .val TI)]
noncomputable def law48_MergeWithout.t0 (x : Int × (List (Int)) × ((List ((Int × Int × Int) × (Int × Int × Int) × Int)) × (List ((Int × Int × Int) × (Int × Int × Int) × (Int × Int × Int) × Int)) × (List (Int × Int × Int × Int)) × Int × (List (Int × Int × Int)) × ((Int × Int × Int) × (Int × Int × Int) × (Int × Int × Int) × Int × Int × Int) × Int × Int) × Bool × ((List ((Int × Int × Int) × (Int × Int × Int) × Int)) × (List ((Int × Int × Int) × (Int × Int × Int) × (Int × Int × Int) × Int)) × (List (Int × Int × Int × Int)) × Int × (List (Int × Int × Int)) × ((Int × Int × Int) × (Int × Int × Int) × (Int × Int × Int) × Int × Int × Int) × Int × Int) × ((List ((Int × Int × Int) × (Int × Int × Int) × Int)) × (List ((Int × Int × Int) × (Int × Int × Int) × (Int × Int × Int) × Int)) × (List (Int × Int × Int × Int)) × Int × (List (Int × Int × Int)) × ((Int × Int × Int) × (Int × Int × Int) × (Int × Int × Int) × Int × Int × Int) × Int × Int) × ErrD × Int × Unit) : T (Ex × Int × (List (Int)) × ((List ((Int × Int × Int) × (Int × Int × Int) × Int)) × (List ((Int × Int × Int) × (Int × Int × Int) × (Int × Int × Int) × Int)) × (List (Int × Int × Int × Int)) × Int × (List (Int × Int × Int)) × ((Int × Int × Int) × (Int × Int × Int) × (Int × Int × Int) × Int × Int × Int) × Int × Int) × Bool × ((List ((Int × Int × Int) × (Int × Int × Int) × Int)) × (List ((Int × Int × Int) × (Int × Int × Int) × (Int × Int × Int) × Int)) × (List (Int × Int × Int × Int)) × Int × (List (Int × Int × Int)) × ((Int × Int × Int) × (Int × Int × Int) × (Int × Int × Int) × Int × Int × Int) × Int × Int) × ((List ((Int × Int × Int) × (Int × Int × Int) × Int)) × (List ((Int × Int × Int) × (Int × Int × Int) × (Int × Int × Int) × Int)) × (List (Int × Int × Int × Int)) × Int × (List (Int × Int × Int)) × ((Int × Int × Int) × (Int × Int × Int) × (Int × Int × Int) × Int × Int × Int) × Int × Int) × ErrD × Int × Unit) := T.ite (decide (x.2.2.2.2.2.2.2.1 < (↑(List.length x.2.2.2.2.1.2.1) : Int))) (T.ite (decide (x.2.2.2.2.2.2.2.1 ≥ x.1)) (T.opt (ref48_Alike (x.2.2.1, W (x.2.2.2.2.2.2.2.1 + (1 : Int)), x.2.2.2.2.1, x.2.2.2.2.2.2.2.1)) fun y => T.ite (!y) (T.ret (Ex.ret, x.1, x.2.1, x.2.2.1, false, x.2.2.2.2.1, x.2.2.2.2.2.1, x.2.2.2.2.2.2.1, x.2.2.2.2.2.2.2.1, ())) (T.ret (Ex.normal, x.1, x.2.1, x.2.2.1, x.2.2.2.1, x.2.2.2.2.1, x.2.2.2.2.2.1, x.2.2.2.2.2.2.1, W (x.2.2.2.2.2.2.2.1 + (1 : Int)), ()))) (T.opt (ref48_Alike (x.2.2.1, x.2.2.2.2.2.2.2.1, x.2.2.2.2.1, x.2.2.2.2.2.2.2.1)) fun y => T.ite (!y) (T.ret (Ex.ret, x.1, x.2.1, x.2.2.1, false, x.2.2.2.2.1, x.2.2.2.2.2.1, x.2.2.2.2.2.2.1, x.2.2.2.2.2.2.2.1, ())) (T.ret (Ex.normal, x.1, x.2.1, x.2.2.1, x.2.2.2.1, x.2.2.2.2.1, x.2.2.2.2.2.1, x.2.2.2.2.2.2.1, W (x.2.2.2.2.2.2.2.1 + (1 : Int)), ())))) (T.ret (Ex.exit (0 : Nat), x.1, x.2.1, x.2.2.1, x.2.2.2.1, x.2.2.2.2.1, x.2.2.2.2.2.1, x.2.2.2.2.2.2.1, x.2.2.2.2.2.2.2.1, ()))
noncomputable def law48_MergeWithout.l0 (x : Int × (List (Int)) × ((List ((Int × Int × Int) × (Int × Int × Int) × Int)) × (List ((Int × Int × Int) × (Int × Int × Int) × (Int × Int × Int) × Int)) × (List (Int × Int × Int × Int)) × Int × (List (Int × Int × Int)) × ((Int × Int × Int) × (Int × Int × Int) × (Int × Int × Int) × Int × Int × Int) × Int × Int) × Bool × ((List ((Int × Int × Int) × (Int × Int × Int) × Int)) × (List ((Int × Int × Int) × (Int × Int × Int) × (Int × Int × Int) × Int)) × (List (Int × Int × Int × Int)) × Int × (List (Int × Int × Int)) × ((Int × Int × Int) × (Int × Int × Int) × (Int × Int × Int) × Int × Int × Int) × Int × Int) × ((List ((Int × Int × Int) × (Int × Int × Int) × Int)) × (List ((Int × Int × Int) × (Int × Int × Int) × (Int × Int × Int) × Int)) × (List (Int × Int × Int × Int)) × Int × (List (Int × Int × Int)) × ((Int × Int × Int) × (Int × Int × Int) × (Int × Int × Int) × Int × Int × Int) × Int × Int) × ErrD × Int × Unit) : Option (Ex × Int × (List (Int)) × ((List ((Int × Int × Int) × (Int × Int × Int) × Int)) × (List ((Int × Int × Int) × (Int × Int × Int) × (Int × Int × Int) × Int)) × (List (Int × Int × Int × Int)) × Int × (List (Int × Int × Int)) × ((Int × Int × Int) × (Int × Int × Int) × (Int × Int × Int) × Int × Int × Int) × Int × Int) × Bool × ((List ((Int × Int × Int) × (Int × Int × Int) × Int)) × (List ((Int × Int × Int) × (Int × Int × Int) × (Int × Int × Int) × Int)) × (List (Int × Int × Int × Int)) × Int × (List (Int × Int × Int)) × ((Int × Int × Int) × (Int × Int × Int) × (Int × Int × Int) × Int × Int × Int) × Int × Int) × ((List ((Int × Int × Int) × (Int × Int × Int) × Int)) × (List ((Int × Int × Int) × (Int × Int × Int) × (Int × Int × Int) × Int)) × (List (Int × Int × Int × Int)) × Int × (List (Int × Int × Int)) × ((Int × Int × Int) × (Int × Int × Int) × (Int × Int × Int) × Int × Int × Int) × Int × Int) × ErrD × Int × Unit) := (iterT law48_MergeWithout.t0 rounds x).run
theorem law48_MergeWithout.k0 : bodies 0 (lp Tryd.f6 []) = [.loop (loopIn 0 (lp Tryd.f6 []))] ∧ WP Tryd.prog 0 (.block 0 (.loop (loopIn 0 (lp Tryd.f6 [])))) (loopS law48_MergeWithout.L0 157 0 [.exit 0, .ret] law48_MergeWithout.l0) :=
  loop_tree (L := law48_MergeWithout.L0) (F := ({ quiet := (ext (ext (ext (ext (ext (ext (ext (ext (ext (ext (ext Xs 7 law22_Light.q) 8 law48_awake.q) 22 merge_Without.q) 23 merge_Order.q) 10 ref22_Check.q) 11 law48_wrong.q) 17 ref48_Alike.q) 24 ref41_Right.q) 29 merge_Join_1.q) 68 scene_lights_1.q) 72 scene_within_1.q), deep := noDeep } : Fns)) (D := D0) (tab := []) (t := law48_MergeWithout.t0) mixed (quiet_ext (quiet_ext (quiet_ext (quiet_ext (quiet_ext (quiet_ext (quiet_ext (quiet_ext (quiet_ext (quiet_ext (quiet_ext Xok law22_Light.ok) law48_awake.ok) merge_Without.ok) merge_Order.ok) ref22_Check.ok) law48_wrong.ok) ref48_Alike.ok) ref41_Right.ok) merge_Join_1.ok) scene_lights_1.ok) scene_within_1.ok) (deep_none _) (fun _ => rfl) (by kernel_rfl) (by kernel_rfl) trivial (fun x => by kernel_rfl)
def law48_MergeWithout.L2 : List (Nat × Lay) := [(2, .val (.sl TI)), (3, .box TScn), (6, .val .bool), (9, .box TScn), (10, .val TE), (14, .val TI)]
noncomputable def law48_MergeWithout.t2 (x : (List (Int)) × ((List ((Int × Int × Int) × (Int × Int × Int) × Int)) × (List ((Int × Int × Int) × (Int × Int × Int) × (Int × Int × Int) × Int)) × (List (Int × Int × Int × Int)) × Int × (List (Int × Int × Int)) × ((Int × Int × Int) × (Int × Int × Int) × (Int × Int × Int) × Int × Int × Int) × Int × Int) × Bool × ((List ((Int × Int × Int) × (Int × Int × Int) × Int)) × (List ((Int × Int × Int) × (Int × Int × Int) × (Int × Int × Int) × Int)) × (List (Int × Int × Int × Int)) × Int × (List (Int × Int × Int)) × ((Int × Int × Int) × (Int × Int × Int) × (Int × Int × Int) × Int × Int × Int) × Int × Int) × ErrD × Int × Unit) : T (Ex × (List (Int)) × ((List ((Int × Int × Int) × (Int × Int × Int) × Int)) × (List ((Int × Int × Int) × (Int × Int × Int) × (Int × Int × Int) × Int)) × (List (Int × Int × Int × Int)) × Int × (List (Int × Int × Int)) × ((Int × Int × Int) × (Int × Int × Int) × (Int × Int × Int) × Int × Int × Int) × Int × Int) × Bool × ((List ((Int × Int × Int) × (Int × Int × Int) × Int)) × (List ((Int × Int × Int) × (Int × Int × Int) × (Int × Int × Int) × Int)) × (List (Int × Int × Int × Int)) × Int × (List (Int × Int × Int)) × ((Int × Int × Int) × (Int × Int × Int) × (Int × Int × Int) × Int × Int × Int) × Int × Int) × ErrD × Int × Unit) := T.ite (decide (x.2.2.2.2.2.1 < (↑(List.length x.1) : Int))) (T.ite (!ErrD.isNil x.2.2.2.2.1) (T.ret (Ex.ret, x.1, x.2.1, false, x.2.2.2.1, x.2.2.2.2.1, x.2.2.2.2.2.1, ())) (T.opt (lget x.1 x.2.2.2.2.2.1) fun y => T.opt (ref48_Alike (x.2.1, y, x.2.2.2.1, x.2.2.2.2.2.1)) fun y => T.ite (!y) (T.ret (Ex.ret, x.1, x.2.1, false, x.2.2.2.1, x.2.2.2.2.1, x.2.2.2.2.2.1, ())) (T.ret (Ex.normal, x.1, x.2.1, x.2.2.1, x.2.2.2.1, x.2.2.2.2.1, W (x.2.2.2.2.2.1 + (1 : Int)), ())))) (T.ret (Ex.exit (2 : Nat), x.1, x.2.1, x.2.2.1, x.2.2.2.1, x.2.2.2.2.1, x.2.2.2.2.2.1, ()))
noncomputable def law48_MergeWithout.l2 (x : (List (Int)) × ((List ((Int × Int × Int) × (Int × Int × Int) × Int)) × (List ((Int × Int × Int) × (Int × Int × Int) × (Int × Int × Int) × Int)) × (List (Int × Int × Int × Int)) × Int × (List (Int × Int × Int)) × ((Int × Int × Int) × (Int × Int × Int) × (Int × Int × Int) × Int × Int × Int) × Int × Int) × Bool × ((List ((Int × Int × Int) × (Int × Int × Int) × Int)) × (List ((Int × Int × Int) × (Int × Int × Int) × (Int × Int × Int) × Int)) × (List (Int × Int × Int × Int)) × Int × (List (Int × Int × Int)) × ((Int × Int × Int) × (Int × Int × Int) × (Int × Int × Int) × Int × Int × Int) × Int × Int) × ErrD × Int × Unit) : Option (Ex × (List (Int)) × ((List ((Int × Int × Int) × (Int × Int × Int) × Int)) × (List ((Int × Int × Int) × (Int × Int × Int) × (Int × Int × Int) × Int)) × (List (Int × Int × Int × Int)) × Int × (List (Int × Int × Int)) × ((Int × Int × Int) × (Int × Int × Int) × (Int × Int × Int) × Int × Int × Int) × Int × Int) × Bool × ((List ((Int × Int × Int) × (Int × Int × Int) × Int)) × (List ((Int × Int × Int) × (Int × Int × Int) × (Int × Int × Int) × Int)) × (List (Int × Int × Int × Int)) × Int × (List (Int × Int × Int)) × ((Int × Int × Int) × (Int × Int × Int) × (Int × Int × Int) × Int × Int × Int) × Int × Int) × ErrD × Int × Unit) := (iterT law48_MergeWithout.t2 rounds x).run
theorem law48_MergeWithout.k2 : bodies 2 (lp Tryd.f6 []) = [.loop (loopIn 2 (lp Tryd.f6 []))] ∧ WP Tryd.prog 0 (.block 2 (.loop (loopIn 2 (lp Tryd.f6 [])))) (loopS law48_MergeWithout.L2 157 2 [.exit 2, .ret] law48_MergeWithout.l2) :=
  loop_tree (L := law48_MergeWithout.L2) (F := ({ quiet := (ext (ext (ext (ext (ext (ext (ext (ext (ext (ext (ext Xs 7 law22_Light.q) 8 law48_awake.q) 22 merge_Without.q) 23 merge_Order.q) 10 ref22_Check.q) 11 law48_wrong.q) 17 ref48_Alike.q) 24 ref41_Right.q) 29 merge_Join_1.q) 68 scene_lights_1.q) 72 scene_within_1.q), deep := noDeep } : Fns)) (D := D0) (tab := []) (t := law48_MergeWithout.t2) mixed (quiet_ext (quiet_ext (quiet_ext (quiet_ext (quiet_ext (quiet_ext (quiet_ext (quiet_ext (quiet_ext (quiet_ext (quiet_ext Xok law22_Light.ok) law48_awake.ok) merge_Without.ok) merge_Order.ok) ref22_Check.ok) law48_wrong.ok) ref48_Alike.ok) ref41_Right.ok) merge_Join_1.ok) scene_lights_1.ok) scene_within_1.ok) (deep_none _) (fun _ => rfl) (by kernel_rfl) (by kernel_rfl) trivial (fun x => by kernel_rfl)
noncomputable def law48_MergeWithout.t (x : ((List ((Int × Int × Int) × (Int × Int × Int) × Int)) × (List ((Int × Int × Int) × (Int × Int × Int) × (Int × Int × Int) × Int)) × (List (Int × Int × Int × Int)) × Int × (List (Int × Int × Int)) × ((Int × Int × Int) × (Int × Int × Int) × (Int × Int × Int) × Int × Int × Int) × Int × Int) × Int × (List (Int))) : T (Bool) := T.ite (!(decide ((↑x.1.1.length : Int) ≤ (40 : Int)) && decide ((↑x.1.2.1.length : Int) ≤ (60 : Int)) && decide ((↑x.1.2.2.1.length : Int) ≤ (60 : Int)) && decide ((↑x.1.2.2.2.2.1.length : Int) ≤ (200 : Int))) || decide ((↑(List.length x.2.2) : Int) > (80 : Int))) (T.ret true) (T.opt (merge_Without (x.1, x.2.1)) fun y => T.opt (merge_Order (x.1, x.2.2)) fun y_1 => T.opt (ref22_Check x.1) fun y_2 => T.ite (!(y_2.fst == (0 : Int) && (y_2.snd.fst == (0 : Int) && y_2.snd.snd == (0 : Int)))) (T.ite true (T.opt (law48_wrong (y.2, y_2)) fun y => T.ite y (T.opt (law48_wrong (y_1.snd, y_2)) fun y => T.ret y) (T.ret false)) (T.ret false)) (T.ite (decide (x.2.1 < (0 : Int)) || decide (x.2.1 ≥ (↑(List.length x.1.2.1) : Int))) (T.ite (ErrD.top y.2 != (3 : Int)) (T.ret false) (T.ite ((↑(List.length x.2.2) : Int) != (↑(List.length x.1.2.1) : Int)) (T.ite true (T.ret (ErrD.top y_1.snd == (2 : Int))) (T.ret false)) (T.opt (ref41_Right x.2.2) fun y => T.ite (!y) (T.ite true (T.ret (ErrD.top y_1.snd == (2 : Int))) (T.ret false)) (T.opt (law48_MergeWithout.l2 (x.2.2, x.1, false, y_1.fst, y_1.snd, (0 : Int), ())) fun y => T.ite (exEq y.1 (Ex.exit (2 : Nat))) (T.ite (ErrD.isNil y.2.2.2.2.2.1) (T.opt (ref22_Check y.2.2.2.2.1) fun y_3 => T.ret (y_3.fst == (0 : Int) && (y_3.snd.fst == (0 : Int) && y_3.snd.snd == (0 : Int)) && (↑(List.length y.2.2.2.2.1.2.2.1) : Int) == (↑(List.length y.2.2.1.2.2.1) : Int))) (T.ret false)) (T.ite (exEq y.1 Ex.ret) (T.ret y.2.2.2.1) T.fail))))) (T.ite (!ErrD.isNil y.2 || (↑(List.length y.1.2.1) : Int) != W ((↑(List.length x.1.2.1) : Int) - (1 : Int))) (T.ret false) (T.opt (ref22_Check y.1) fun y_3 => T.ite (!(y_3.fst == (0 : Int) && (y_3.snd.fst == (0 : Int) && y_3.snd.snd == (0 : Int)))) (T.ret false) (T.opt (law48_MergeWithout.l0 (x.2.1, x.2.2, x.1, false, y.1, y_1.fst, y_1.snd, (0 : Int), ())) fun y => T.ite (exEq y.1 (Ex.exit (0 : Nat))) (T.ite ((↑(List.length y.2.2.1) : Int) != (↑(List.length y.2.2.2.1.2.1) : Int)) (T.ite true (T.ret (ErrD.top y.2.2.2.2.2.2.2.1 == (2 : Int))) (T.ret false)) (T.opt (ref41_Right y.2.2.1) fun y_4 => T.ite (!y_4) (T.ite true (T.ret (ErrD.top y.2.2.2.2.2.2.2.1 == (2 : Int))) (T.ret false)) (T.opt (law48_MergeWithout.l2 (y.2.2.1, y.2.2.2.1, y.2.2.2.2.1, y.2.2.2.2.2.2.1, y.2.2.2.2.2.2.2.1, (0 : Int), ())) fun y => T.ite (exEq y.1 (Ex.exit (2 : Nat))) (T.ite (ErrD.isNil y.2.2.2.2.2.1) (T.opt (ref22_Check y.2.2.2.2.1) fun y_5 => T.ret (y_5.fst == (0 : Int) && (y_5.snd.fst == (0 : Int) && y_5.snd.snd == (0 : Int)) && (↑(List.length y.2.2.2.2.1.2.2.1) : Int) == (↑(List.length y.2.2.1.2.2.1) : Int))) (T.ret false)) (T.ite (exEq y.1 Ex.ret) (T.ret y.2.2.2.1) T.fail)))) (T.ite (exEq y.1 Ex.ret) (T.ret y.2.2.2.2.1) T.fail))))))
noncomputable def law48_MergeWithout (x : ((List ((Int × Int × Int) × (Int × Int × Int) × Int)) × (List ((Int × Int × Int) × (Int × Int × Int) × (Int × Int × Int) × Int)) × (List (Int × Int × Int × Int)) × Int × (List (Int × Int × Int)) × ((Int × Int × Int) × (Int × Int × Int) × (Int × Int × Int) × Int × Int × Int) × Int × Int) × Int × (List (Int))) : Option (Bool) := (law48_MergeWithout.t x).run
noncomputable def law48_MergeWithout.q : List AV → T AV := entry [TScn, TI, (.sl TI)] (outR [.bool]) fun x => .opt (law48_MergeWithout x) .ret
theorem law48_MergeWithout.ok : FnOK Tryd.prog 6 law48_MergeWithout.q :=
  entry_call (ps := [TScn, TI, (.sl TI)]) (rs := [.bool]) (F := ({ quiet := (ext (ext (ext (ext (ext (ext (ext (ext (ext (ext (ext Xs 7 law22_Light.q) 8 law48_awake.q) 22 merge_Without.q) 23 merge_Order.q) 10 ref22_Check.q) 11 law48_wrong.q) 17 ref48_Alike.q) 24 ref41_Right.q) 29 merge_Join_1.q) 68 scene_lights_1.q) 72 scene_within_1.q), deep := noDeep } : Fns)) (D := D0) (S := tabS [(0, loopS law48_MergeWithout.L0 157 0 [.exit 0, .ret] law48_MergeWithout.l0), (2, loopS law48_MergeWithout.L2 157 2 [.exit 2, .ret] law48_MergeWithout.l2)]) (t := law48_MergeWithout.t) mixed (quiet_ext (quiet_ext (quiet_ext (quiet_ext (quiet_ext (quiet_ext (quiet_ext (quiet_ext (quiet_ext (quiet_ext (quiet_ext Xok law22_Light.ok) law48_awake.ok) merge_Without.ok) merge_Order.ok) ref22_Check.ok) law48_wrong.ok) ref48_Alike.ok) ref41_Right.ok) merge_Join_1.ok) scene_lights_1.ok) scene_within_1.ok) (deep_none _) Tryd.func6 (by kernel_rfl) (sok_fn ⟨law48_MergeWithout.k0, law48_MergeWithout.k2, trivial⟩) (by kernel_rfl) (fun x => by kernel_rfl)
end Go.Proofs.Pen

namespace Go.Proofs.Pen
open Go Go.Proofs

/-! ### How much a triangle shines -/
def litAt (L : List LitT) (t : Int) : Option W3 := (L.find? fun l => l.1 == t).map (·.2)
def litR : Option W3 → W3 × Bool
  | some p => (p, true)
  | none => ((0, 0, 0), false)

theorem find_drop {α : Type} {p : α → Bool} {l : List α} {k : Nat} (h : k < l.length) : (l.drop k).find? p = if p l[k] = true then some l[k] else (l.drop (k + 1)).find? p := by
  rw [List.drop_eq_getElem_cons h, List.find?_cons]
  cases p l[k] <;> rfl

theorem RLight_run (x : ScT) (t : Int) (hx : x.2.2.1.length ≤ 900) : ∀ (n k m : Nat), k + n = x.2.2.1.length → n < m →
    ∃ i, (iterT ref48_Light.t0 m (t, x, (0, 0, 0), false, (k : Int), ())).run = some (match (x.2.2.1.drop k).find? fun l => l.1 == t with
      | some l => (.ret, t, x, l.2, true, i, ())
      | none => (.exit 0, t, x, (0, 0, 0), false, i, ()))
  | n, k, 0, _, hm => absurd hm (Nat.not_lt_zero _)
  | 0, k, m + 1, hk, _ => by
    refine ⟨(k : Int), ?_⟩
    rw [List.drop_eq_nil_of_le (by omega), List.find?_nil]
    refine iter_stop (by simp) ?_
    unfold ref48_Light.t0
    dsimp only
    rw [tr_no (by simp; omega), tr_ret]
  | n + 1, k, m + 1, hk, hm => by
    have hlt : k < x.2.2.1.length := by omega
    rw [find_drop hlt]
    by_cases hc : (x.2.2.1[k].1 == t) = true
    · refine ⟨(k : Int), ?_⟩
      rw [if_pos hc]
      refine iter_stop (by simp) ?_
      unfold ref48_Light.t0
      dsimp only
      rw [tr_yes (by simp; omega), tr_opt, lget_nat _ hlt, Option.bind_some, tr_yes hc, tr_opt, Option.bind_some, tr_ret]
    · obtain ⟨i, hi⟩ := RLight_run x t hx n (k + 1) m (by omega) (by omega)
      refine ⟨i, ?_⟩
      rw [if_neg hc, ← hi]
      refine iter_go ?_
      unfold ref48_Light.t0
      dsimp only
      rw [tr_yes (by simp; omega), tr_opt, lget_nat _ hlt, Option.bind_some, tr_no (by simpa using hc), tr_ret, W_succ (by omega)]

theorem RLight_eq (x : ScT) (t : Int) (hx : x.2.2.1.length ≤ 900) : ref48_Light (x, t) = some (litR (litAt x.2.2.1 t)) := by
  obtain ⟨i, hi⟩ := RLight_run x t hx x.2.2.1.length 0 rounds (by omega) (rounds_gt (by omega))
  have e0 : ref48_Light.l0 (t, x, (0, 0, 0), false, 0, ()) = _ := hi
  rw [List.drop_zero] at e0
  unfold ref48_Light ref48_Light.t
  dsimp only
  rw [tr_opt, e0, Option.bind_some]
  unfold litAt
  cases List.find? (fun l => l.1 == t) x.2.2.1 <;> rfl

theorem Alike_eq (a b : ScT) (i k : Int) (t : TriT) (ha : lget a.2.1 i = some t) (hb : lget b.2.1 k = some t) (hm : a.1 = b.1) (ht : 0 ≤ t.2.2.2 ∧ t.2.2.2 < a.1.length) (hla : a.2.2.1.length ≤ 900) (hlb : b.2.2.1.length ≤ 900) (hl : litAt a.2.2.1 i = litAt b.2.2.1 k) :
    ref48_Alike (a, i, b, k) = some true := by
  have hg : ∃ m, lget a.1 t.2.2.2 = some m := by
    obtain ⟨n, hn⟩ : ∃ n : Nat, t.2.2.2 = n := ⟨t.2.2.2.toNat, by omega⟩
    rw [hn]
    exact ⟨_, lget_nat _ (by omega)⟩
  obtain ⟨m, hg⟩ := hg
  unfold ref48_Alike ref48_Alike.t
  dsimp only
  rw [tr_opt, ha, Option.bind_some, tr_opt, hb, Option.bind_some, tr_opt, RLight_eq a i hla, Option.bind_some, tr_opt, RLight_eq b k hlb, Option.bind_some, tr_yes (by simp), tr_opt, hg, Option.bind_some, ← hm, tr_opt, hg, Option.bind_some, tr_ret, hl]
  simp

/-! ### Without a triangle -/
def woF (t : Int) (y : LitT) : Option LitT := if y.1 = t then none else if y.1 > t then some (y.1 - 1, y.2) else some y
def woL (t : Int) (L : List LitT) : List LitT := L.filterMap (woF t)
def woT (t : Int) (T : List TriT) : List TriT := T.take t.toNat ++ T.drop (t.toNat + 1)
def woS (t : Int) (x : ScT) : ScT := (x.1, woT t x.2.1, woL t x.2.2.1, x.2.2.2)

theorem woL_take (t : Int) (L : List LitT) {k : Nat} (h : k < L.length) : woL t (L.take (k + 1)) = woL t (L.take k) ++ (woF t L[k]).toList := by
  unfold woL
  rw [List.take_succ_eq_append_getElem h, List.filterMap_append]
  cases hw : woF t L[k] <;> simp [hw]
theorem woL_len (t : Int) (L : List LitT) : (woL t L).length ≤ L.length := List.length_filterMap_le _ _

theorem wo_lit (t : Int) (k : Int) : ∀ L : List LitT, litAt (woL t L) k = litAt L (if k ≥ t then k + 1 else k)
  | [] => rfl
  | l :: L => by
    have ih := wo_lit t k L
    unfold litAt woL at ih ⊢
    by_cases h1 : l.1 = t
    · rw [List.filterMap_cons_none (by unfold woF; rw [if_pos h1]), ih, List.find?_cons_of_neg]
      split <;> simp <;> omega
    · by_cases h2 : l.1 > t
      · rw [List.filterMap_cons_some (b := (l.1 - 1, l.2)) (by unfold woF; rw [if_neg h1, if_pos h2])]
        by_cases h3 : l.1 - 1 = k
        · rw [List.find?_cons_of_pos (by simpa using h3), List.find?_cons_of_pos (by rw [if_pos (by omega)]; simp; omega)]
          rfl
        · rw [List.find?_cons_of_neg (by simpa using h3), ih, List.find?_cons_of_neg (by split <;> simp <;> omega)]
      · rw [List.filterMap_cons_some (b := l) (by unfold woF; rw [if_neg h1, if_neg h2])]
        by_cases h3 : l.1 = k
        · rw [List.find?_cons_of_pos (by simpa using h3), List.find?_cons_of_pos (by rw [if_neg (by omega)]; simpa using h3)]
        · rw [List.find?_cons_of_neg (by simpa using h3), ih, List.find?_cons_of_neg (by split <;> simp <;> omega)]

theorem woT_len (t : Int) (T : List TriT) (h0 : 0 ≤ t) (h1 : t < T.length) : (woT t T).length = T.length - 1 := by
  unfold woT
  rw [List.length_append, List.length_take, List.length_drop]; omega
theorem woT_get (t : Int) (T : List TriT) (h0 : 0 ≤ t) (h1 : t < T.length) {k : Nat} (h : k < T.length - 1) : lget (woT t T) (k : Int) = lget T (if (k : Int) ≥ t then (k : Int) + 1 else k) := by
  rw [lget_nat _ (by rw [woT_len t T h0 h1]; exact h)]
  by_cases hk : (k : Int) ≥ t
  · rw [if_pos hk, show (k : Int) + 1 = ((k + 1 : Nat) : Int) by omega, lget_nat T (by omega)]
    unfold woT
    rw [List.getElem_append_right (by rw [List.length_take]; omega), List.getElem_drop]
    congr 2
    rw [List.length_take]; omega
  · rw [if_neg hk, lget_nat T (by omega)]
    unfold woT
    rw [List.getElem_append_left (by rw [List.length_take]; omega), List.getElem_take]

theorem Without_l0 (t : Int) (M : List MatT) (T : List TriT) (L : List LitT) (z : Int) (C : List W3) (c : CamT) (k h : Int) (hL : L.length ≤ 900) (hl : ∀ l ∈ L, 0 ≤ l.1 ∧ l.1 < 1000) :
    merge_Without.l0 (t, ZS, (M, T, [], z, C, c, k, h, ()), L, (L.length : Int), 0, ()) = some (.exit 0, t, ZS, (M, T, woL t L, z, C, c, k, h, ()), L, (L.length : Int), (L.length : Int), ()) := by
  have key := iter_count (t := merge_Without.t0) (fun i => (t, ZS, (M, T, woL t (L.take i), z, C, c, k, h, ()), L, (L.length : Int), (i : Int), ())) (e := .exit 0)
    (z := (t, ZS, (M, T, woL t (L.take L.length), z, C, c, k, h, ()), L, (L.length : Int), (L.length : Int), ())) (by simp) L.length 0 rounds
    (fun i _ hi => by
      have hi : i < L.length := by omega
      have hlen := woL_len t (L.take i)
      rw [List.length_take] at hlen
      obtain ⟨g1, g2⟩ := hl _ (List.getElem_mem hi)
      rw [woL_take t L hi]
      unfold merge_Without.t0
      dsimp only
      rw [tr_yes (by simp; omega), tr_opt, lget_nat _ hi, Option.bind_some, W_succ (by omega), tr_ite, tr_ite, tr_ite, tr_ite]
      simp only [List.take_length, take_snoc]
      unfold woF
      by_cases h1 : L[i].1 = t
      · rw [if_pos (by simpa using h1), if_pos h1, tr_ret]; simp
      · rw [if_neg (by simpa using h1), if_neg h1]
        by_cases h2 : L[i].1 > t
        · rw [if_pos (by simpa using h2), if_pos h2, if_pos (decide_eq_true (room (by omega) (by omega))), tr_ret, W_id (by omega) (by omega)]; rfl
        · rw [if_neg (by simpa using h2), if_neg h2, if_pos (decide_eq_true (room (by omega) (by omega))), tr_ret]; rfl)
    (by
      unfold merge_Without.t0
      dsimp only
      rw [Nat.zero_add, tr_no (by simp), List.take_length, List.take_length, List.take_length, List.take_length, List.take_length, tr_ret])
    (rounds_gt (by omega))
  simp only [List.take_zero, List.take_length] at key
  exact key

theorem Without_eq (x : ScT) (t : Int) (hx : lightB x) : merge_Without (x, t) = some (match wr x with
    | some w => (ZS, mkErr (some w))
    | none => if (decide (t < 0) || decide (t ≥ (x.2.1.length : Int))) = true then (ZS, .fault 3 0 .nil) else (woS t x, .nil)) := by
  unfold merge_Without merge_Without.t
  dsimp only
  rw [tr_opt, Check_eq x hx, Option.bind_some, tr_ite, mkErr_nil]
  cases hw : wr x with
  | some w => rfl
  | none =>
  obtain ⟨x1, x2, x3, x4⟩ := hx
  obtain ⟨_, _, tx, lx, _, _, _, _⟩ := wr_none.1 hw
  rw [if_neg (by simp), tr_ite]
  dsimp only
  by_cases hb : (decide (t < 0) || decide (t ≥ (x.2.1.length : Int))) = true
  · rw [if_pos hb, if_pos hb]; rfl
  rw [if_neg hb, if_neg hb]
  simp only [Bool.or_eq_true, decide_eq_true_eq] at hb
  have et : List.take (x.2.1.length - 1) (List.take (Int.toNat t) x.2.1 ++ List.drop (Int.toNat t + 1) x.2.1 ++ [trZ]) = woT t x.2.1 := by
    have := woT_len t x.2.1 (by omega) (by omega)
    unfold woT at this ⊢
    rw [← this, List.take_left]
  rw [tr_yes (decide_eq_true (small60 x1 (by omega))), tr_yes (decide_eq_true (small60 x2 (by omega))), tr_yes (decide_eq_true (small60 x3 (by omega))), tr_yes (decide_eq_true (small60 x4 (by omega))),
    W_id (by omega) (by omega), tr_yes (by simp; omega), et, List.take_length, List.take_length, tr_opt, Without_l0 t _ _ _ _ _ _ _ _ x3 (fun l hl => ⟨(lx l hl).1, by have := (lx l hl).2.1; omega⟩), Option.bind_some]
  dsimp only
  rw [tr_yes (by rfl), tr_ret, List.take_length, List.take_length, List.take_length, List.take_length]
  rfl

theorem ok_wo {x : ScT} {t : Int} (h0 : 0 ≤ t) (h1 : t < x.2.1.length) (hx : okS x) : okS (woS t x) := by
  obtain ⟨gx, mx, tx, lx, nx, ⟨zx, cx⟩, ex, dx⟩ := hx
  have gx := bigB_false.1 gx
  have hl := woT_len t x.2.1 h0 h1
  have hl2 := woL_len t x.2.2.1
  unfold woS
  refine ⟨bigB_false.2 ⟨gx.1, ?_, ?_, gx.2.2.2⟩, mx, ?_, ?_, ?_, ⟨zx, cx⟩, ex, ?_⟩
  · dsimp only; omega
  · dsimp only; omega
  · intro u hu
    refine tx u ?_
    dsimp only [woT] at hu
    rcases List.mem_append.1 hu with h | h
    · exact List.mem_of_mem_take h
    · exact List.mem_of_mem_drop h
  · intro u hu
    dsimp only at hu ⊢
    rw [hl]
    obtain ⟨y, hy, hf⟩ := List.mem_filterMap.1 hu
    obtain ⟨g1, g2, g3⟩ := lx y hy
    unfold woF at hf
    split at hf
    · cases hf
    split at hf
    · cases hf; exact ⟨by dsimp only; omega, by dsimp only; omega, g3⟩
    · cases hf; exact ⟨by omega, by omega, g3⟩
  · dsimp only [woL]
    rw [List.pairwise_filterMap]
    refine nx.imp fun {a b} hab c hc d hd => ?_
    unfold woF at hc hd
    split at hc
    · cases hc
    split at hd
    · cases hd
    split at hc <;> split at hd <;> cases hc <;> cases hd <;> (try dsimp only) <;> omega
  · rw [← dx]; exact cam_same rfl

/-! ### Orders -/
def atF (o : List Int) : Nat → Int → Int
  | 0, _ => 0
  | i + 1, v => if o.getD i 0 = v then (i : Int) else atF o i v
def seenL (n : Nat) (o : List Int) (i : Nat) : List Bool := (List.range n).map fun (v : Nat) => (o.take i).contains (v : Int)
def atL (n : Nat) (o : List Int) (i : Nat) : List Int := (List.range n).map fun (v : Nat) => atF o i (v : Int)
def triAt (T : List TriT) (k : Int) : TriT := T.getD k.toNat trZ
def trisL (T : List TriT) (o : List Int) (i : Nat) : List TriT := (o.take i).map (triAt T) ++ T.drop i
def badO (n : Nat) (o : List Int) (i : Nat) : Bool := decide (o.getD i 0 < 0) || decide (o.getD i 0 ≥ (n : Int)) || (o.take i).contains (o.getD i 0)
def badF (n : Nat) (o : List Int) (i : Nat) : Option W3 := if badO n o i = true then some (0, 0, 0) else none

theorem seen_len (n : Nat) (o : List Int) (i : Nat) : (seenL n o i).length = n := by unfold seenL; rw [List.length_map, List.length_range]
theorem at_len (n : Nat) (o : List Int) (i : Nat) : (atL n o i).length = n := by unfold atL; rw [List.length_map, List.length_range]
theorem tris_len (T : List TriT) (o : List Int) (i : Nat) (h : o.length = T.length) : (trisL T o i).length = T.length := by
  unfold trisL; rw [List.length_append, List.length_map, List.length_take, List.length_drop]; omega
theorem seen_get (n : Nat) (o : List Int) (i : Nat) {v : Nat} (h : v < n) : (seenL n o i)[0 + Int.toNat (v : Int)]? = some ((o.take i).contains (v : Int)) := by
  unfold seenL
  rw [Int.toNat_natCast, Nat.zero_add, List.getElem?_map, List.getElem?_range h]; rfl
theorem at_get (n : Nat) (o : List Int) (i : Nat) {v : Nat} (h : v < n) : (atL n o i)[0 + Int.toNat (v : Int)]? = some (atF o i v) := by
  unfold atL
  rw [Int.toNat_natCast, Nat.zero_add, List.getElem?_map, List.getElem?_range h]; rfl
theorem seen_at {n : Nat} {o : List Int} {i j : Nat} (h : j < (seenL n o i).length) : (seenL n o i)[j] = (o.take i).contains (j : Int) := by simp [seenL]
theorem at_at {n : Nat} {o : List Int} {i j : Nat} (h : j < (atL n o i).length) : (atL n o i)[j] = atF o i (j : Int) := by simp [atL]
theorem seen_set (n : Nat) (o : List Int) (i : Nat) (hi : i < o.length) {v : Nat} (hv : o[i] = v) : (seenL n o i).set (0 + Int.toNat (v : Int)) true = seenL n o (i + 1) := by
  refine List.ext_getElem (by rw [List.length_set, seen_len, seen_len]) fun j h1 h2 => ?_
  rw [List.getElem_set]
  rw [seen_at, seen_at, Int.toNat_natCast, Nat.zero_add, List.take_succ_eq_append_getElem hi, hv]
  by_cases h : v = j
  · rw [if_pos h]; subst h; simp
  · rw [if_neg h, Bool.eq_iff_iff]
    simp only [List.contains_iff_mem, List.mem_append, List.mem_singleton]
    constructor
    · exact .inl
    · rintro (h' | h')
      · exact h'
      · omega
theorem at_set (n : Nat) (o : List Int) (i : Nat) (hi : i < o.length) {v : Nat} (hv : o[i] = v) : (atL n o i).set (0 + Int.toNat (v : Int)) (i : Int) = atL n o (i + 1) := by
  refine List.ext_getElem (by rw [List.length_set, at_len, at_len]) fun j h1 h2 => ?_
  have hg : o.getD i 0 = (v : Int) := by rw [List.getD_eq_getElem?_getD, List.getElem?_eq_getElem hi, Option.getD_some, hv]
  rw [List.getElem_set]
  rw [at_at, at_at, Int.toNat_natCast, Nat.zero_add]
  show _ = if o.getD i 0 = (j : Int) then (i : Int) else atF o i j
  rw [hg]
  by_cases h : v = j
  · rw [if_pos h, if_pos (by omega)]
  · rw [if_neg h, if_neg (by omega)]
theorem tris_get (T : List TriT) (o : List Int) {i : Nat} (hi : i < o.length) (h : o.length = T.length) : ∃ u, (trisL T o i)[0 + Int.toNat (i : Int)]? = some u :=
  ⟨_, List.getElem?_eq_getElem (by rw [tris_len T o i h, Int.toNat_natCast]; omega)⟩
theorem tris_set (T : List TriT) (o : List Int) {i : Nat} (hi : i < o.length) (h : o.length = T.length) : (trisL T o i).set (0 + Int.toNat (i : Int)) (triAt T o[i]) = trisL T o (i + 1) := by
  have e : ((o.take i).map (triAt T)).length = i := by rw [List.length_map, List.length_take]; omega
  unfold trisL
  rw [Int.toNat_natCast, Nat.zero_add, List.set_append_right _ _ (by omega), e, Nat.sub_self, List.drop_eq_getElem_cons (l := T) (i := i) (by omega), ← map_takeS (triAt T) o hi, List.append_assoc]
  rfl
theorem seen_zero (n : Nat) (o : List Int) : List.replicate n false = seenL n o 0 := by
  refine List.ext_getElem (by rw [List.length_replicate, seen_len]) fun j h1 h2 => ?_
  rw [List.getElem_replicate, seen_at, List.take_zero]; rfl
theorem at_zero (n : Nat) (o : List Int) : List.replicate n (0 : Int) = atL n o 0 := by
  refine List.ext_getElem (by rw [List.length_replicate, at_len]) fun j h1 h2 => ?_
  rw [List.getElem_replicate, at_at]; rfl
theorem triAt_lget (T : List TriT) {k : Int} (h0 : 0 ≤ k) (h1 : k < T.length) : lget T k = some (triAt T k) := by
  obtain ⟨v, rfl⟩ : ∃ v : Nat, k = v := ⟨k.toNat, by omega⟩
  rw [lget_nat T (by omega)]
  unfold triAt
  rw [Int.toNat_natCast, List.getD_eq_getElem?_getD, List.getElem?_eq_getElem (by omega), Option.getD_some]
theorem getD_at {o : List Int} {i : Nat} (hi : i < o.length) : o.getD i 0 = o[i] := by rw [List.getD_eq_getElem?_getD, List.getElem?_eq_getElem hi, Option.getD_some]

theorem Order_l0 (x : ScT) (o : List Int) (hx : lightB x) (ho : o.length = x.2.1.length) (M : List MatT) (L : List LitT) (z : Int) (C : List W3) (c : CamT) (k h : Int) :
    ∃ w a i, merge_Order.l0 (x, ZS, .nil, atL x.2.1.length o 0, seenL x.2.1.length o 0, (M, trisL x.2.1 o 0, L, z, C, c, k, h, ()), o, (o.length : Int), 0, ()) =
      some (match firstF (badF x.2.1.length o) 0 o.length with
        | some _ => (.ret, x, ZS, .fault 2 0 .nil, a, w, i)
        | none => (.exit 0, x, ZS, .nil, atL x.2.1.length o o.length, seenL x.2.1.length o o.length, (M, trisL x.2.1 o o.length, L, z, C, c, k, h, ()), o, (o.length : Int), (o.length : Int), ())) := by
  obtain ⟨_, x2, _, _⟩ := hx
  let n := x.2.1.length
  have key := iter_first (t := merge_Order.t0) (fun i => (x, ZS, .nil, atL n o i, seenL n o i, (M, trisL x.2.1 o i, L, z, C, c, k, h, ()), o, (o.length : Int), (i : Int), ())) (badF n o)
    (fun i _ => (x, ZS, .fault 2 0 .nil, atL n o i, seenL n o i, (M, trisL x.2.1 o i, L, z, C, c, k, h, ()), o, (o.length : Int), (i : Int), ())) (e := .exit 0)
    (z := (x, ZS, .nil, atL n o o.length, seenL n o o.length, (M, trisL x.2.1 o o.length, L, z, C, c, k, h, ()), o, (o.length : Int), (o.length : Int), ())) (by simp) o.length 0 rounds
    (fun i _ hi hf => by
      have hi : i < o.length := by omega
      have hb : badO n o i = false := by
        unfold badF at hf
        split at hf
        · cases hf
        · rename_i h; simpa using h
      unfold badO at hb
      rw [getD_at hi] at hb
      simp only [Bool.or_eq_false_iff, decide_eq_false_iff_not] at hb
      obtain ⟨⟨b1, b2⟩, b3⟩ := hb
      obtain ⟨v, hv⟩ : ∃ v : Nat, o[i] = v := ⟨o[i].toNat, by omega⟩
      have hvn : v < n := by omega
      obtain ⟨u, hu⟩ := tris_get x.2.1 o hi ho
      have htr := triAt_lget x.2.1 (k := (v : Int)) (by omega) (by omega)
      have hset := tris_set x.2.1 o hi ho
      rw [hv] at b3 hset
      unfold merge_Order.t0
      dsimp only
      rw [tr_yes (by simp; omega), tr_opt, lget_nat _ hi, Option.bind_some, hv, at_len, seen_len, tr_no (by simp; omega), tr_yes (by simp; omega), tr_opt, seen_get n o i hvn, Option.bind_some, b3, tr_no rfl, tr_yes (by simp; omega), tr_opt, Option.bind_some, tr_yes (by simp; omega), tr_opt, at_get n o i hvn, Option.bind_some, tr_opt, htr, Option.bind_some,
        tris_len x.2.1 o i ho, tr_yes (by simp; omega), tr_opt, hu, Option.bind_some, tr_ret, W_succ (by omega), at_set n o i hi hv, seen_set n o i hi hv, hset, List.take_length, List.take_length, List.take_length]
      rw [List.take_of_length_le (l := atL n o (i + 1)) (by rw [at_len]; exact Nat.le_refl _), List.take_of_length_le (l := seenL n o (i + 1)) (by rw [seen_len]; exact Nat.le_refl _), List.take_of_length_le (l := trisL x.2.1 o (i + 1)) (by rw [tris_len _ _ _ ho]; exact Nat.le_refl _)])
    (fun i w _ hi hf => by
      have hi : i < o.length := by omega
      have hb : badO n o i = true := by
        unfold badF at hf
        split at hf
        · assumption
        · cases hf
      unfold badO at hb
      rw [getD_at hi] at hb
      have hN : fault_New (2, 0) = some (.fault 2 0 .nil) := New_eq (by decide)
      unfold merge_Order.t0
      dsimp only
      rw [tr_yes (by simp; omega), tr_opt, lget_nat _ hi, Option.bind_some, at_len, seen_len]
      by_cases hr : (decide (o[i] < 0) || decide (o[i] ≥ (n : Int))) = true
      · rw [tr_yes hr, tr_opt, hN, Option.bind_some, tr_ret, List.take_length, List.take_length, List.take_length, List.take_length]
        rw [List.take_of_length_le (l := atL n o i) (by rw [at_len]; exact Nat.le_refl _), List.take_of_length_le (l := seenL n o i) (by rw [seen_len]; exact Nat.le_refl _)]
      · have hr : (decide (o[i] < 0) || decide (o[i] ≥ (n : Int))) = false := by simpa using hr
        rw [hr, Bool.false_or] at hb
        have hr' := hr
        simp only [Bool.or_eq_false_iff, decide_eq_false_iff_not] at hr'
        obtain ⟨v, hv⟩ : ∃ v : Nat, o[i] = v := ⟨o[i].toNat, by omega⟩
        have hvn : v < n := by omega
        rw [hv] at hb hr
        rw [hv, tr_no hr, tr_yes (by simp; omega), tr_opt, seen_get n o i hvn, Option.bind_some, hb, tr_yes rfl, tr_opt, hN, Option.bind_some, tr_ret, List.take_length, List.take_length, List.take_length, List.take_length]
        rw [List.take_of_length_le (l := atL n o i) (by rw [at_len]; exact Nat.le_refl _), List.take_of_length_le (l := seenL n o i) (by rw [seen_len]; exact Nat.le_refl _)])
    (by
      unfold merge_Order.t0
      dsimp only
      rw [Nat.zero_add, tr_no (by simp), tr_ret, List.take_length, List.take_length, List.take_length, List.take_length, List.take_length, List.take_length])
    (rounds_gt (by omega))
  cases hf : firstF (badF n o) 0 o.length with
  | none =>
    rw [hf] at key
    exact ⟨[], [], ((M, [], L, z, C, c, k, h, ()), o, 0, 0, ()), key⟩
  | some p =>
    rw [hf] at key
    exact ⟨_, _, _, key⟩
end Go.Proofs.Pen

namespace Go.Proofs.Pen
open Go Go.Proofs

def ordL (o : List Int) (l : LitT) : LitT := (atF o o.length l.1, l.2)
def ordS (o : List Int) (x : ScT) : ScT := (x.1, o.map (triAt x.2.1), x.2.2.1.map (ordL o), x.2.2.2)

theorem Order_l2 (n : Nat) (o : List Int) (M : List MatT) (T : List TriT) (L : List LitT) (z : Int) (C : List W3) (c : CamT) (k h : Int) (hL : L.length ≤ 900) (hl : ∀ l ∈ L, 0 ≤ l.1 ∧ l.1 < n) :
    merge_Order.l2 (ZS, atL n o o.length, (M, T, L, z, C, c, k, h, ()), L, (L.length : Int), 0, ()) = some (.exit 2, ZS, atL n o o.length, (M, T, L.map (ordL o), z, C, c, k, h, ()), L, (L.length : Int), (L.length : Int), ()) := by
  have key := iter_count (t := merge_Order.t2) (fun i => (ZS, atL n o o.length, (M, T, (L.take i).map (ordL o) ++ L.drop i, z, C, c, k, h, ()), L, (L.length : Int), (i : Int), ())) (e := .exit 2)
    (z := (ZS, atL n o o.length, (M, T, (L.take L.length).map (ordL o) ++ L.drop L.length, z, C, c, k, h, ()), L, (L.length : Int), (L.length : Int), ())) (by simp) L.length 0 rounds
    (fun i _ hi => by
      have hi : i < L.length := by omega
      obtain ⟨g1, g2⟩ := hl _ (List.getElem_mem hi)
      obtain ⟨v, hv⟩ : ∃ v : Nat, L[i].1 = v := ⟨L[i].1.toNat, by omega⟩
      unfold merge_Order.t2
      dsimp only
      rw [tr_yes (by simp; omega), tr_opt, lget_nat _ hi, Option.bind_some, hv, at_len, tr_yes (by simp; omega), tr_opt, at_get n o o.length (by omega), Option.bind_some, part_len, tr_yes (by simp; omega), tr_opt, part_get (ordL o) L hi, Option.bind_some]
      rw [show (atF o o.length (v : Int), L[i].2) = ordL o L[i] by unfold ordL; rw [hv], part_set (ordL o) L hi, List.take_length, List.take_length, List.take_length, List.take_of_length_le (l := atL n o o.length) (by rw [at_len]; exact Nat.le_refl _), List.take_of_length_le (l := (L.take (i + 1)).map (ordL o) ++ L.drop (i + 1)) (by rw [part_len]; exact Nat.le_refl _), tr_ret, W_succ (by omega)])
    (by
      unfold merge_Order.t2
      dsimp only
      rw [Nat.zero_add, tr_no (by simp), List.take_length, List.take_length, List.take_length, List.take_length, List.take_length, List.take_length, tr_ret])
    (rounds_gt (by omega))
  simp only [List.take_zero, List.map_nil, List.nil_append, List.take_length, List.drop_zero, List.drop_length, List.append_nil] at key
  exact key

def goodO (n : Nat) (o : List Int) : Prop := o.length = n ∧ ∀ i, i < o.length → badO n o i = false

theorem badF_none {n : Nat} {o : List Int} {i : Nat} : badF n o i = none ↔ badO n o i = false := by
  unfold badF
  cases badO n o i <;> simp

theorem Order_good (x : ScT) (o : List Int) (hx : lightB x) (hw : wr x = none) (hg : goodO x.2.1.length o) : merge_Order (x, o) = some (ordS o x, .nil) := by
  obtain ⟨ho, hg⟩ := hg
  obtain ⟨w, a, i, h0⟩ := Order_l0 x o hx ho x.1 x.2.2.1 x.2.2.2.1 x.2.2.2.2.1 x.2.2.2.2.2.1 x.2.2.2.2.2.2.1 x.2.2.2.2.2.2.2
  have hf : firstF (badF x.2.1.length o) 0 o.length = none := by
    have := (firstF_none_iff (f := badF x.2.1.length o) (n := o.length)).2 fun i hi => badF_none.2 (hg i hi)
    simpa using this
  rw [hf] at h0
  obtain ⟨x1, x2, x3, x4⟩ := hx
  obtain ⟨_, _, _, lx, _, _, _, _⟩ := wr_none.1 hw
  unfold merge_Order merge_Order.t
  dsimp only
  rw [tr_opt, Check_eq x ⟨x1, x2, x3, x4⟩, Option.bind_some, hw, tr_no (by rfl), tr_yes (by unfold most; simp; omega), tr_yes (by unfold most; simp; omega), tr_no (by simp; omega),
    tr_yes (decide_eq_true (small60 x1 (by omega))), tr_yes (decide_eq_true (small60 x2 (by omega))), tr_yes (decide_eq_true (small60 x3 (by omega))), tr_yes (decide_eq_true (small60 x4 (by omega)))]
  have et : trisL x.2.1 o 0 = x.2.1 := by unfold trisL; simp
  rw [et] at h0
  rw [Int.toNat_natCast, seen_zero x.2.1.length o, at_zero x.2.1.length o, List.take_of_length_le (l := atL _ o 0) (by rw [at_len]; exact Nat.le_refl _), List.take_of_length_le (l := seenL _ o 0) (by rw [seen_len]; exact Nat.le_refl _), List.take_length, List.take_length, List.take_length, List.take_length, tr_opt, h0, Option.bind_some]
  dsimp only
  rw [tr_yes (by rfl), List.take_length, List.take_length, List.take_length, List.take_length, List.take_length, tr_opt, Order_l2 x.2.1.length o _ _ _ _ _ _ _ _ x3 (fun l hl => ⟨(lx l hl).1, (lx l hl).2.1⟩), Option.bind_some]
  dsimp only
  rw [tr_yes (by rfl), tr_ret, List.take_length, List.take_length, List.take_length, List.take_length]
  have e2 : trisL x.2.1 o o.length = o.map (triAt x.2.1) := by unfold trisL; rw [List.take_length, ho, List.drop_length, List.append_nil]
  rw [e2]
  rfl

theorem Order_bad (x : ScT) (o : List Int) (hx : lightB x) (hol : o.length ≤ 900) (hw : wr x = none) (hg : ¬ goodO x.2.1.length o) : merge_Order (x, o) = some (ZS, .fault 2 0 .nil) := by
  obtain ⟨x1, x2, x3, x4⟩ := hx
  unfold merge_Order merge_Order.t
  dsimp only
  rw [tr_opt, Check_eq x ⟨x1, x2, x3, x4⟩, Option.bind_some, hw, tr_no (by rfl), tr_yes (by unfold most; simp; omega), tr_yes (by unfold most; simp; omega)]
  by_cases ho : o.length = x.2.1.length
  case neg => rw [tr_yes (by simp; omega)]; rfl
  obtain ⟨w, a, i, h0⟩ := Order_l0 x o ⟨x1, x2, x3, x4⟩ ho x.1 x.2.2.1 x.2.2.2.1 x.2.2.2.2.1 x.2.2.2.2.2.1 x.2.2.2.2.2.2.1 x.2.2.2.2.2.2.2
  have hf : firstF (badF x.2.1.length o) 0 o.length ≠ none := fun h => hg ⟨ho, fun i hi => badF_none.1 (firstF_none h i (Nat.zero_le _) (by omega))⟩
  rw [tr_no (by simp; omega),
    tr_yes (decide_eq_true (small60 x1 (by omega))), tr_yes (decide_eq_true (small60 x2 (by omega))), tr_yes (decide_eq_true (small60 x3 (by omega))), tr_yes (decide_eq_true (small60 x4 (by omega)))]
  have et : trisL x.2.1 o 0 = x.2.1 := by unfold trisL; simp
  rw [et] at h0
  rw [Int.toNat_natCast, seen_zero x.2.1.length o, at_zero x.2.1.length o, List.take_of_length_le (l := atL _ o 0) (by rw [at_len]; exact Nat.le_refl _), List.take_of_length_le (l := seenL _ o 0) (by rw [seen_len]; exact Nat.le_refl _), List.take_length, List.take_length, List.take_length, List.take_length, tr_opt, h0, Option.bind_some]
  cases hff : firstF (badF x.2.1.length o) 0 o.length with
  | none => exact absurd hff hf
  | some p =>
    dsimp only
    rw [tr_no (by rfl), tr_yes (by rfl), tr_ret]

/-! ### Right orders -/
theorem count_take (o : List Int) (v : Int) {k : Nat} (h : k < o.length) : (o.take (k + 1)).count v = (o.take k).count v + if o[k] = v then 1 else 0 := by
  rw [List.take_succ_eq_append_getElem h, List.count_append, List.count_singleton]
  by_cases hv : o[k] = v <;> simp [hv]

theorem Right_l2 (o : List Int) (v : Int) (ho : o.length ≤ 900) : ref41_Right.l2 (o, false, v, 0, 0, ()) = some (.exit 2, o, false, v, (o.count v : Int), (o.length : Int), ()) := by
  have key := iter_count (t := ref41_Right.t2) (fun i => (o, false, v, ((o.take i).count v : Int), (i : Int), ())) (e := .exit 2) (z := (o, false, v, ((o.take o.length).count v : Int), (o.length : Int), ())) (by simp) o.length 0 rounds
    (fun i _ hi => by
      have hi : i < o.length := by omega
      have hc : (o.take i).count v ≤ i := Nat.le_trans List.count_le_length (by rw [List.length_take]; omega)
      unfold ref41_Right.t2
      dsimp only
      rw [tr_yes (by simp; omega), tr_opt, lget_nat _ hi, Option.bind_some, tr_ite, tr_ret, tr_ret, W_succ (k := i) (by omega), count_take o v hi, W_succ (by omega)]
      by_cases hv : o[i] = v
      · rw [if_pos (by simpa using hv), if_pos hv]
      · rw [if_neg (by simpa using hv), if_neg hv]; rfl)
    (by
      unfold ref41_Right.t2
      dsimp only
      rw [Nat.zero_add, tr_no (by simp), tr_ret, List.take_length])
    (rounds_gt (by omega))
  simp only [List.take_zero, List.take_length] at key
  exact key

def rightO (o : List Int) : Prop := ∀ i : Nat, i < o.length → o.count (i : Int) = 1

theorem Right_eq (o : List Int) (ho : o.length ≤ 900) : ∃ b, ref41_Right o = some b ∧ (b = true ↔ rightO o) := by
  have key := iter_first (t := ref41_Right.t0) (fun i => (o, false, (i : Int), ())) (fun i => if o.count (i : Int) = 1 then none else some (0, 0, 0)) (fun i _ => (o, false, (i : Int), ())) (e := .exit 0) (z := (o, false, (o.length : Int), ())) (by simp) o.length 0 rounds
    (fun i _ hi hf => by
      have hi : i < o.length := by omega
      have hc : o.count (i : Int) = 1 := by
        split at hf
        · assumption
        · cases hf
      unfold ref41_Right.t0
      dsimp only
      rw [tr_yes (by simp; omega), tr_opt, Right_l2 o _ ho, Option.bind_some]
      dsimp only
      rw [tr_yes (by rfl), tr_no (by rw [hc]; rfl), tr_ret, W_succ (by omega)])
    (fun i w _ hi hf => by
      have hi : i < o.length := by omega
      have hc : ¬ o.count (i : Int) = 1 := by
        split at hf
        · cases hf
        · assumption
      unfold ref41_Right.t0
      dsimp only
      rw [tr_yes (by simp; omega), tr_opt, Right_l2 o _ ho, Option.bind_some]
      dsimp only
      rw [tr_yes (by rfl), tr_yes (by simp; omega), tr_ret])
    (by
      unfold ref41_Right.t0
      dsimp only
      rw [Nat.zero_add, tr_no (by simp), tr_ret])
    (rounds_gt (by omega))
  have e0 : ref41_Right.l0 (o, false, 0, ()) = _ := key
  unfold ref41_Right ref41_Right.t
  rw [tr_opt, e0, Option.bind_some]
  cases hf : firstF (fun i : Nat => if o.count (i : Int) = 1 then none else some ((0, 0, 0) : W3)) 0 o.length with
  | none =>
    refine ⟨true, rfl, fun _ i hi => ?_, fun _ => rfl⟩
    have := firstF_none hf i (Nat.zero_le _) (by omega)
    split at this
    · assumption
    · cases this
  | some p =>
    refine ⟨false, rfl, fun h => Bool.noConfusion h, fun h => ?_⟩
    obtain ⟨i, w⟩ := p
    obtain ⟨_, h2, h3⟩ := firstF_some hf
    rw [if_pos (h i (by omega))] at h3
    cases h3

theorem sum_counts : ∀ (n : Nat) (o : List Int), ((List.range n).map fun (v : Nat) => o.count (v : Int)).sum = o.countP fun a : Int => decide (0 ≤ a) && decide (a < (n : Int))
  | 0, o => by
    rw [List.range_zero, List.map_nil, List.sum_nil, eq_comm, List.countP_eq_zero]
    intro a _
    first | (simp; done) | (simp; omega)
  | n + 1, o => by
    rw [List.range_succ, List.map_append, List.sum_append, sum_counts n o]
    simp only [List.map_cons, List.map_nil, List.sum_cons, List.sum_nil, Nat.add_zero]
    induction o with
    | nil => rfl
    | cons a o ih =>
      rw [List.countP_cons, List.countP_cons, List.count_cons, ← ih]
      by_cases h1 : 0 ≤ a ∧ a < n
      · rw [show (decide (0 ≤ a) && decide (a < (n : Int))) = true by simp; omega, show (decide (0 ≤ a) && decide (a < ((n + 1 : Nat) : Int))) = true by simp; omega, show (a == (n : Int)) = false by simp; omega]
        simp only [if_true, if_false, Bool.false_eq_true]
        omega
      · by_cases h2 : a = n
        · rw [show (decide (0 ≤ a) && decide (a < (n : Int))) = false by simp; omega, show (decide (0 ≤ a) && decide (a < ((n + 1 : Nat) : Int))) = true by simp; omega, show (a == (n : Int)) = true by simp; omega]
          simp only [if_true, if_false, Bool.false_eq_true]
          omega
        · rw [show (decide (0 ≤ a) && decide (a < (n : Int))) = false by simp; omega, show (decide (0 ≤ a) && decide (a < ((n + 1 : Nat) : Int))) = false by simp; omega, show (a == (n : Int)) = false by simp; omega]
          simp only [if_false, Bool.false_eq_true]
          omega

theorem sum_ones {f : Nat → Nat} : ∀ {n : Nat}, (∀ v, v < n → f v = 1) → ((List.range n).map f).sum = n
  | 0, _ => rfl
  | n + 1, h => by
    rw [List.range_succ, List.map_append, List.sum_append, sum_ones fun v hv => h v (by omega)]
    simp only [List.map_cons, List.map_nil, List.sum_cons, List.sum_nil, Nat.add_zero]
    rw [h n (by omega)]
theorem sum_le {f : Nat → Nat} : ∀ {n : Nat}, (∀ v, v < n → f v ≤ 1) → ((List.range n).map f).sum ≤ n
  | 0, _ => Nat.le_refl _
  | n + 1, h => by
    rw [List.range_succ, List.map_append, List.sum_append]
    have h1 := sum_le (f := f) (n := n) fun v hv => h v (by omega)
    have h2 := h n (by omega)
    simp only [List.map_cons, List.map_nil, List.sum_cons, List.sum_nil, Nat.add_zero]
    omega
theorem ones_of {f : Nat → Nat} : ∀ {n : Nat}, (∀ v, v < n → f v ≤ 1) → ((List.range n).map f).sum = n → ∀ v, v < n → f v = 1
  | 0, _, _, v, hv => absurd hv (Nat.not_lt_zero _)
  | n + 1, h, hs, v, hv => by
    rw [List.range_succ, List.map_append, List.sum_append] at hs
    have h1 := sum_le (f := f) (n := n) fun v hv => h v (by omega)
    have h2 := h n (by omega)
    simp only [List.map_cons, List.map_nil, List.sum_cons, List.sum_nil, Nat.add_zero] at hs
    rcases Nat.lt_or_ge v n with hlt | hge
    · exact ones_of (fun v hv => h v (by omega)) (by omega) v hlt
    · have : v = n := by omega
      subst this
      omega

theorem badO_false {n : Nat} {o : List Int} {i : Nat} (hi : i < o.length) : badO n o i = false ↔ 0 ≤ o[i] ∧ o[i] < n ∧ o[i] ∉ o.take i := by
  unfold badO
  rw [getD_at hi]
  simp only [Bool.or_eq_false_iff, decide_eq_false_iff_not, ← List.contains_iff_mem, Bool.not_eq_true]
  constructor
  · rintro ⟨⟨a, b⟩, c⟩; exact ⟨by omega, by omega, c⟩
  · rintro ⟨a, b, c⟩; exact ⟨⟨by omega, by omega⟩, c⟩

theorem good_right {o : List Int} : goodO o.length o ↔ rightO o := by
  constructor
  · rintro ⟨_, h⟩
    have hle : ∀ v : Int, o.count v ≤ 1 := by
      intro v
      have : ∀ k, k ≤ o.length → (o.take k).count v ≤ 1 := by
        intro k
        induction k with
        | zero => intro _; simp
        | succ k ih =>
          intro hk
          rw [count_take o v (by omega)]
          have := ih (by omega)
          by_cases hv : o[k] = v
          · have hn := ((badO_false (by omega)).1 (h k (by omega))).2.2
            rw [hv] at hn
            rw [List.count_eq_zero.2 hn, if_pos hv]
            exact Nat.le_refl _
          · rw [if_neg hv]; exact this
      have := this o.length (Nat.le_refl _)
      rwa [List.take_length] at this
    have hs := sum_counts o.length o
    have hc : (o.countP fun a : Int => decide (0 ≤ a) && decide (a < (o.length : Int))) = o.length := by
      rw [List.countP_eq_length]
      intro a ha
      obtain ⟨i, hi, rfl⟩ := List.getElem_of_mem ha
      have := (badO_false (by omega)).1 (h i hi)
      simp; omega
    rw [hc] at hs
    exact fun v hv => ones_of (f := fun v : Nat => o.count (v : Int)) (fun v _ => hle v) hs v hv
  · intro h
    refine ⟨rfl, fun i hi => (badO_false hi).2 ?_⟩
    have hs := sum_counts o.length o
    rw [sum_ones (f := fun v : Nat => o.count (v : Int)) h] at hs
    have hc := List.countP_eq_length.1 hs.symm o[i] (List.getElem_mem hi)
    simp only [Bool.and_eq_true, decide_eq_true_eq] at hc
    refine ⟨hc.1, hc.2, fun hm => ?_⟩
    obtain ⟨v, hv⟩ : ∃ v : Nat, o[i] = v := ⟨o[i].toNat, by omega⟩
    have h1 := h v (by omega)
    have h2 : (o.take (i + 1)).count o[i] ≤ o.count o[i] := (List.take_sublist _ _).count_le _
    rw [count_take o o[i] hi, if_pos rfl, hv, h1] at h2
    rw [hv] at hm
    have h3 := List.count_pos_iff.2 hm
    omega

theorem atF_at {n : Nat} {o : List Int} (h : ∀ i, i < o.length → badO n o i = false) : ∀ (i j : Nat) (hj : j < o.length), j < i → i ≤ o.length → atF o i o[j] = j
  | 0, _, _, h, _ => absurd h (Nat.not_lt_zero _)
  | i + 1, j, hj, hji, hi => by
    show (if o.getD i 0 = o[j] then (i : Int) else atF o i o[j]) = j
    rw [getD_at (by omega)]
    rcases Nat.lt_or_ge j i with hlt | hge
    · have hn := ((badO_false (by omega)).1 (h i (by omega))).2.2
      rw [if_neg]
      · exact atF_at h i j hj hlt (by omega)
      · intro he
        refine hn ?_
        rw [he, List.mem_take_iff_getElem]
        exact ⟨j, by omega, rfl⟩
    · have : j = i := by omega
      subst this
      rw [if_pos rfl]
end Go.Proofs.Pen

namespace Go.Proofs.Pen
open Go Go.Proofs

theorem good_iff {n : Nat} {o : List Int} (h : o.length = n) : goodO n o ↔ rightO o := by
  subst h; exact good_right

theorem hit_of {o : List Int} (hr : rightO o) {v : Int} (h0 : 0 ≤ v) (h1 : v < o.length) : ∃ j, ∃ hj : j < o.length, o[j] = v := by
  obtain ⟨n, rfl⟩ : ∃ n : Nat, v = n := ⟨v.toNat, by omega⟩
  have := hr n (by omega)
  have hm := List.count_pos_iff.1 (show 0 < o.count (n : Int) by omega)
  obtain ⟨j, hj, e⟩ := List.getElem_of_mem hm
  exact ⟨j, hj, e⟩

theorem triAt_mem {T : List TriT} {k : Int} (h0 : 0 ≤ k) (h1 : k < T.length) : triAt T k ∈ T := by
  have h := triAt_lget T h0 h1
  obtain ⟨v, rfl⟩ : ∃ v : Nat, k = v := ⟨k.toNat, by omega⟩
  rw [lget_nat T (by omega)] at h
  rw [← Option.some.inj h]
  exact List.getElem_mem _

theorem atF_hit {n : Nat} {o : List Int} (hg : goodO n o) {j : Nat} (hj : j < o.length) : atF o o.length o[j] = j := atF_at hg.2 o.length j hj hj (Nat.le_refl _)

theorem ord_lit {n : Nat} {o : List Int} (hg : goodO n o) {i : Nat} (hi : i < o.length) : ∀ L : List LitT, (∀ l ∈ L, 0 ≤ l.1 ∧ l.1 < n) → litAt (L.map (ordL o)) (i : Int) = litAt L o[i]
  | [], _ => rfl
  | l :: L, h => by
    have ih := ord_lit hg hi L fun l hl => h l (List.mem_cons_of_mem _ hl)
    have ho := hg.1
    have hr := (good_iff ho).1 hg
    obtain ⟨h0, h1⟩ := h l List.mem_cons_self
    obtain ⟨j, hj, e⟩ := hit_of hr h0 (by omega)
    have hat : (ordL o l).1 = j := by unfold ordL; rw [← e]; exact atF_hit hg hj
    unfold litAt at ih ⊢
    rw [List.map_cons]
    by_cases hij : j = i
    · subst hij
      rw [List.find?_cons_of_pos (by simpa using hat), List.find?_cons_of_pos (by simpa using e.symm)]
      rfl
    · rw [List.find?_cons_of_neg (by rw [hat]; simp; omega), ih, List.find?_cons_of_neg]
      intro he
      have he : l.1 = o[i] := by simpa using he
      rw [← e] at he
      have q1 := atF_hit hg hj
      have q2 := atF_hit hg hi
      rw [he, q2] at q1
      omega

theorem ok_ord {x : ScT} {o : List Int} (hg : goodO x.2.1.length o) (hx : okS x) : okS (ordS o x) := by
  obtain ⟨gx, mx, tx, lx, nx, ⟨zx, cx⟩, ex, dx⟩ := hx
  have gx := bigB_false.1 gx
  have ho := hg.1
  have hr := (good_iff ho).1 hg
  have hit : ∀ l ∈ x.2.2.1, ∃ j, ∃ hj : j < o.length, o[j] = l.1 ∧ (ordL o l).1 = j := by
    intro l hl
    obtain ⟨g1, g2, _⟩ := lx l hl
    obtain ⟨j, hj, e⟩ := hit_of hr g1 (by omega)
    exact ⟨j, hj, e, by unfold ordL; rw [← e]; exact atF_hit hg hj⟩
  unfold ordS
  refine ⟨bigB_false.2 ⟨gx.1, ?_, ?_, gx.2.2.2⟩, mx, ?_, ?_, ?_, ⟨zx, cx⟩, ex, ?_⟩
  · dsimp only; rw [List.length_map]; omega
  · dsimp only; rw [List.length_map]; omega
  · intro u hu
    obtain ⟨k, hk, rfl⟩ := List.mem_map.1 hu
    obtain ⟨i, hi, rfl⟩ := List.getElem_of_mem hk
    have hb := (badO_false hi).1 (hg.2 i hi)
    exact tx _ (triAt_mem hb.1 hb.2.1)
  · intro u hu
    obtain ⟨y, hy, rfl⟩ := List.mem_map.1 hu
    obtain ⟨j, hj, _, e⟩ := hit y hy
    obtain ⟨g1, g2, g3⟩ := lx y hy
    refine ⟨by omega, ?_, g3⟩
    dsimp only
    rw [List.length_map, e]; omega
  · dsimp only
    rw [List.pairwise_map]
    refine nx.imp_of_mem fun {a b} ha hb hab => ?_
    obtain ⟨j, hj, e1, e2⟩ := hit a ha
    obtain ⟨k, hk, e3, e4⟩ := hit b hb
    rw [e2, e4]
    intro he
    have he : j = k := by omega
    subst he
    exact hab (e1.symm.trans e3)
  · rw [← dx]; exact cam_same rfl

theorem Order_wr (x : ScT) (o : List Int) (hx : lightB x) {w : W3} (hw : wr x = some w) : merge_Order (x, o) = some (ZS, mkErr (some w)) := by
  unfold merge_Order merge_Order.t
  dsimp only
  rw [tr_opt, Check_eq x hx, Option.bind_some, hw]
  rfl

theorem Order_l2_law (x : ScT) (o : List Int) (hx : lightB x) (hw : wr x = none) (hg : goodO x.2.1.length o) :
    law48_MergeWithout.l2 (o, x, false, ordS o x, .nil, 0, ()) = some (.exit 2, o, x, false, ordS o x, .nil, (o.length : Int), ()) := by
  obtain ⟨x1, x2, x3, x4⟩ := hx
  obtain ⟨_, _, tx, lx, _, _, _, _⟩ := wr_none.1 hw
  have ho := hg.1
  have key := iter_count (t := law48_MergeWithout.t2) (fun i => (o, x, false, ordS o x, .nil, (i : Int), ())) (e := .exit 2) (z := (o, x, false, ordS o x, .nil, (o.length : Int), ())) (by simp) o.length 0 rounds
    (fun i _ hi => by
      have hi : i < o.length := by omega
      have hb := (badO_false hi).1 (hg.2 i hi)
      have hmem := triAt_mem hb.1 hb.2.1
      have hal : ref48_Alike (x, o[i], ordS o x, (i : Int)) = some true := by
        refine Alike_eq _ _ _ _ (triAt x.2.1 o[i]) (triAt_lget _ hb.1 hb.2.1) ?_ rfl ⟨(tx _ hmem).1, (tx _ hmem).2.1⟩ x3 (by simpa [ordS] using x3) (ord_lit hg hi _ fun l hl => ⟨(lx l hl).1, (lx l hl).2.1⟩).symm
        unfold ordS
        dsimp only
        rw [lget_nat _ (by rw [List.length_map]; exact hi), List.getElem_map]
      unfold law48_MergeWithout.t2
      dsimp only
      rw [tr_yes (by simp; omega), tr_no (by rfl), tr_opt, lget_nat _ hi, Option.bind_some, tr_opt, hal, Option.bind_some, tr_no (by rfl), tr_ret, W_succ (by omega)])
    (by
      unfold law48_MergeWithout.t2
      dsimp only
      rw [Nat.zero_add, tr_no (by simp), tr_ret])
    (rounds_gt (by omega))
  exact key

noncomputable def ordPart (s : ScT) (o : List Int) (r : ScT × ErrD) : T Bool := T.ite ((o.length : Int) != (s.2.1.length : Int)) (T.ite true (T.ret (ErrD.top r.2 == 2)) (T.ret false)) (T.opt (ref41_Right o) fun y => T.ite (!y) (T.ite true (T.ret (ErrD.top r.2 == 2)) (T.ret false))
  (T.opt (law48_MergeWithout.l2 (o, s, false, r.1, r.2, 0, ())) fun y => T.ite (exEq y.1 (Ex.exit 2)) (T.ite (ErrD.isNil y.2.2.2.2.2.1) (T.opt (ref22_Check y.2.2.2.2.1) fun y_3 => T.ret (y_3.fst == 0 && (y_3.snd.fst == 0 && y_3.snd.snd == 0) && ((List.length y.2.2.2.2.1.2.2.1 : Nat) : Int) == ((List.length y.2.2.1.2.2.1 : Nat) : Int))) (T.ret false)) (T.ite (exEq y.1 Ex.ret) (T.ret y.2.2.2.1) T.fail)))

theorem ordPart_eq (x : ScT) (o : List Int) (hx : lightB x) (hw : wr x = none) (hol : o.length ≤ 80) : ∃ r, merge_Order (x, o) = some r ∧ (ordPart x o r).run = some true := by
  obtain ⟨b, hb, hbr⟩ := Right_eq o (by omega)
  by_cases hg : goodO x.2.1.length o
  · refine ⟨_, Order_good x o hx hw hg, ?_⟩
    have ho := hg.1
    have hr := (good_iff ho).1 hg
    have hbt : b = true := hbr.2 hr
    subst hbt
    have hlo : lightB (ordS o x) := by
      obtain ⟨x1, x2, x3, x4⟩ := hx
      exact ⟨x1, by simp [ordS]; omega, by simpa [ordS] using x3, x4⟩
    unfold ordPart
    dsimp only
    rw [tr_no (by simp; omega), tr_opt, hb, Option.bind_some, tr_no (by rfl), tr_opt, Order_l2_law x o hx hw hg, Option.bind_some]
    dsimp only
    rw [tr_yes (by rfl), tr_yes (by rfl), tr_opt, RCheck_eq _ hlo, Option.bind_some, tr_ret, wr_none.2 (ok_ord hg (wr_none.1 hw))]
    simp [mkW, ordS]
  · refine ⟨_, Order_bad x o hx (by omega) hw hg, ?_⟩
    unfold ordPart
    dsimp only
    by_cases ho : o.length = x.2.1.length
    · have hbf : b = false := by
        cases hb' : b with
        | false => rfl
        | true => exact absurd ((good_iff ho).2 (hbr.1 hb')) hg
      subst hbf
      rw [tr_no (by simp; omega), tr_opt, hb, Option.bind_some, tr_yes (by rfl), tr_yes (by rfl), tr_ret]
      rfl
    · rw [tr_yes (by simp; omega), tr_yes (by rfl), tr_ret]
      rfl

theorem Without_l0_law (x : ScT) (t : Int) (o : List Int) (r : ScT × ErrD) (hx : lightB x) (hw : wr x = none) (h0 : 0 ≤ t) (h1 : t < x.2.1.length) :
    law48_MergeWithout.l0 (t, o, x, false, woS t x, r.1, r.2, 0, ()) = some (.exit 0, t, o, x, false, woS t x, r.1, r.2, ((woT t x.2.1).length : Int), ()) := by
  obtain ⟨x1, x2, x3, x4⟩ := hx
  obtain ⟨_, _, tx, lx, _, _, _, _⟩ := wr_none.1 hw
  have hlen := woT_len t x.2.1 h0 h1
  have key := iter_count (t := law48_MergeWithout.t0) (fun i => (t, o, x, false, woS t x, r.1, r.2, (i : Int), ())) (e := .exit 0) (z := (t, o, x, false, woS t x, r.1, r.2, ((woT t x.2.1).length : Int), ())) (by simp) (woT t x.2.1).length 0 rounds
    (fun i _ hi => by
      have hi : i < (woT t x.2.1).length := by omega
      have hal : ref48_Alike (x, (if (i : Int) ≥ t then (i : Int) + 1 else i), woS t x, (i : Int)) = some true := by
        have hin : ∃ j : Nat, (if (i : Int) ≥ t then (i : Int) + 1 else i) = j ∧ j < x.2.1.length := by
          split
          · exact ⟨i + 1, by omega, by omega⟩
          · exact ⟨i, rfl, by omega⟩
        obtain ⟨j, hj, hjl⟩ := hin
        have hg := woT_get t x.2.1 h0 h1 (k := i) (by omega)
        rw [hj, lget_nat _ hjl] at hg
        have hl := wo_lit t (i : Int) x.2.2.1
        rw [hj] at hl ⊢
        have hmem : x.2.1[j] ∈ x.2.1 := List.getElem_mem hjl
        exact Alike_eq _ _ _ _ x.2.1[j] (lget_nat _ hjl) hg rfl ⟨(tx _ hmem).1, (tx _ hmem).2.1⟩ x3 (Nat.le_trans (woL_len t _) x3) hl.symm
      unfold law48_MergeWithout.t0
      dsimp only
      rw [tr_yes (decide_eq_true (show (i : Int) < ((woS t x).2.1.length : Int) from (by omega : (i : Int) < ((woT t x.2.1).length : Int)))), tr_ite, W_succ (by omega)]
      by_cases hge : (i : Int) ≥ t
      · rw [if_pos hge] at hal
        rw [if_pos (decide_eq_true hge), tr_opt, show ((i + 1 : Nat) : Int) = (i : Int) + 1 by omega, hal, Option.bind_some, tr_no (by rfl), tr_ret]
      · rw [if_neg hge] at hal
        rw [if_neg (by simpa using hge), tr_opt, hal, Option.bind_some, tr_no (by rfl), tr_ret])
    (by
      unfold law48_MergeWithout.t0
      dsimp only
      rw [Nat.zero_add, tr_no (by simp [woS]), tr_ret])
    (rounds_gt (by omega))
  exact key

theorem MergeWithout_law (x : ScT) (t : Int) (o : List Int) : (law48_MergeWithout.t (x, t, o)).run = some true := by
  unfold law48_MergeWithout.t
  dsimp only
  rw [tr_ite]
  by_cases hl : (x.1.length ≤ 40 ∧ x.2.1.length ≤ 60 ∧ x.2.2.1.length ≤ 60 ∧ x.2.2.2.2.1.length ≤ 200) ∧ o.length ≤ 80
  case neg => rw [if_pos (by simp; omega), tr_ret]
  obtain ⟨hl, hol⟩ := hl
  have hx := lightOf hl
  rw [if_neg (by simp; omega), tr_opt, Without_eq x t hx, Option.bind_some, tr_opt]
  cases hw : wr x with
  | some w =>
    rw [Order_wr x o hx hw, Option.bind_some, tr_opt, RCheck_eq x hx, Option.bind_some, tr_ite, mkW_zero (fun w h => wr_ok h), hw, if_pos (by rfl), tr_yes (by rfl), tr_opt]
    dsimp only
    rw [wrong_eq (wr_ok hw), Option.bind_some, tr_yes rfl, tr_opt, Option.bind_some, tr_ret]
  | none =>
    obtain ⟨r, hr, hp⟩ := ordPart_eq x o hx hw hol
    rw [hr, Option.bind_some, tr_opt, RCheck_eq x hx, Option.bind_some, tr_ite, mkW_zero (fun w h => wr_ok h), hw, if_neg (by simp), tr_ite]
    dsimp only
    by_cases hb : (decide (t < 0) || decide (t ≥ (x.2.1.length : Int))) = true
    · rw [if_pos hb, if_pos hb, tr_no (by rfl)]
      exact hp
    rw [if_neg hb, if_neg hb]
    simp only [Bool.or_eq_true, decide_eq_true_eq] at hb
    have h0 : 0 ≤ t := by omega
    have h1 : t < x.2.1.length := by omega
    have hlo : lightB (woS t x) := by
      obtain ⟨x1, x2, x3, x4⟩ := hx
      have := woT_len t x.2.1 h0 h1
      exact ⟨x1, by dsimp only [woS]; omega, Nat.le_trans (woL_len t _) x3, x4⟩
    have hlen := woT_len t x.2.1 h0 h1
    rw [W_id (by omega) (by omega), tr_no (by simp [woS, ErrD.isNil]; omega), tr_opt, RCheck_eq _ hlo, Option.bind_some, wr_none.2 (ok_wo h0 h1 (wr_none.1 hw)), tr_no (by rfl), tr_opt, Without_l0_law x t o r hx hw h0 h1, Option.bind_some]
    dsimp only
    rw [tr_yes (by rfl)]
    exact hp

theorem MergeWithout_all (x : dens [TScn, TI, .sl TI]) (_ : insAll [TScn, TI, .sl TI] x) : (law48_MergeWithout.t x).run = some true := MergeWithout_law x.1 x.2.1 x.2.2
end Go.Proofs.Pen
