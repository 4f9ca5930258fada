/- A part of the proof that the law BuildMakes is true of every input: models of the functions that the law reaches, and what holds of them. -/
import Derived.Test.YtdcdmooafepbiaaGreatDoorPenKit0
import Derived.Test.YtdcdmooafepbiaaGreatDoorPenKit1
import Derived.Test.YtdcdmooafepbiaaGreatDoorPenKit2
import Derived.Test.YtdcdmooafepbiaaGreatDoorPenKit3
import Derived.Test.YtdcdmooafepbiaaGreatDoorPenBuildMakes4
import Derived.Test.YtdcdmooafepbiaaGreatDoorPenKit5
import Derived.Test.YtdcdmooafepbiaaGreatDoorPenBuildMakes6
import Derived.Test.YtdcdmooafepbiaaGreatDoorPenBuildMakes7
namespace Go.Proofs.Pen
open Go Go.Proofs
noncomputable def law47_BuildMakes.deeps : Deeps := { D := [15, 18, 20, 16, 39, 10, 4, 6, 40, 23, 11, 24, 25, 26, 27], C := [], frz := false, S := extSn (fun _ _ => noS) 39 14 (tabS eachShine.S) }
theorem law47_BuildMakes.deepsOk : LoopsOK Tryz.prog law47_BuildMakes.deeps.S := (loops_extn (loops_none _) Tryz.func39 eachShine.tab)
noncomputable def law47_BuildMakes.tabl : DTab := (tbExt (tbExt tb 23 (freshD scene_Check.q)) 11 (freshD ref22_Check.q))
theorem law47_BuildMakes.tablOk : TBOK Tryz.prog law47_BuildMakes.tabl := (tb_ext (tb_ext tbOk (fresh_deep scene_Check.okF)) (fresh_deep ref22_Check.okF))
def law47_BuildMakes.L0 : List (Nat × Lay) := [(1, .val (.sl (.st (.pair TI (.pair TI (.pair TI (.pair TI (.pair TP (.pair TP (.pair TMove (.pair TMatD (.sl TP)))))))))))), (4, .val .bool), (5, .obx [.own TMatD, .own TTriD, .own TLitD, .dat TI, .own TP, .dat TCam, .dat TI, .dat TI, .own TI, .own .bool]), (6, .box TMade), (7, .val TI)]
noncomputable def law47_BuildMakes.t0 (x : (List (Int × Int × Int × Int × (Int × Int × Int) × (Int × Int × Int) × ((Int × Int × Int) × (Int × Int × Int) × (Int × Int × Int) × Int × Int × Int) × ((Int × Int × Int) × (Int × Int × Int) × Int) × List (Int × Int × Int))) × Bool × (List ((Int × Int × Int) × (Int × Int × Int) × Int) × List ((Int × Int × Int) × (Int × Int × Int) × (Int × Int × Int) × Int) × List (Int × Int × Int × Int) × Int × List (Int × Int × Int) × ((Int × Int × Int) × (Int × Int × Int) × (Int × Int × Int) × Int × Int × Int) × Int × Int × List Int × List Bool × Unit) × (((List ((Int × Int × Int) × (Int × Int × Int) × Int)) × (List ((Int × Int × Int) × (Int × Int × Int) × (Int × Int × Int) × Int)) × (List (Int × Int × Int × Int)) × Int × (List (Int × Int × Int)) × ((Int × Int × Int) × (Int × Int × Int) × (Int × Int × Int) × Int × Int × Int) × Int × Int) × List (Int) × List (Bool)) × Int × Unit) : T (Ex × (List (Int × Int × Int × Int × (Int × Int × Int) × (Int × Int × Int) × ((Int × Int × Int) × (Int × Int × Int) × (Int × Int × Int) × Int × Int × Int) × ((Int × Int × Int) × (Int × Int × Int) × Int) × List (Int × Int × Int))) × Bool × (List ((Int × Int × Int) × (Int × Int × Int) × Int) × List ((Int × Int × Int) × (Int × Int × Int) × (Int × Int × Int) × Int) × List (Int × Int × Int × Int) × Int × List (Int × Int × Int) × ((Int × Int × Int) × (Int × Int × Int) × (Int × Int × Int) × Int × Int × Int) × Int × Int × List Int × List Bool × Unit) × (((List ((Int × Int × Int) × (Int × Int × Int) × Int)) × (List ((Int × Int × Int) × (Int × Int × Int) × (Int × Int × Int) × Int)) × (List (Int × Int × Int × Int)) × Int × (List (Int × Int × Int)) × ((Int × Int × Int) × (Int × Int × Int) × (Int × Int × Int) × Int × Int × Int) × Int × Int) × List (Int) × List (Bool)) × Int × Unit) := T.ite (decide (x.2.2.2.2.1 < (↑(List.length x.1) : Int)) && decide (x.2.2.2.2.1 < (30 : Int))) (T.opt (lget x.1 x.2.2.2.2.1) fun y => T.ite (decide ((↑(List.length y.2.2.2.2.2.2.2.2) : Int) > (200 : Int))) (T.ret (Ex.normal, x.1, x.2.1, (List.take x.2.2.1.1.length x.2.2.1.1, List.take x.2.2.1.2.1.length x.2.2.1.2.1, List.take x.2.2.1.2.2.1.length x.2.2.1.2.2.1, x.2.2.1.2.2.2.1, List.take x.2.2.1.2.2.2.2.1.length x.2.2.1.2.2.2.2.1, x.2.2.1.2.2.2.2.2.1, x.2.2.1.2.2.2.2.2.2.1, x.2.2.1.2.2.2.2.2.2.2.1, List.take x.2.2.1.2.2.2.2.2.2.2.2.1.length x.2.2.1.2.2.2.2.2.2.2.2.1, List.take x.2.2.1.2.2.2.2.2.2.2.2.2.1.length x.2.2.1.2.2.2.2.2.2.2.2.2.1, ()), x.2.2.2.1, W (x.2.2.2.2.1 + (1 : Int)), ())) (T.opt (lget x.1 x.2.2.2.2.1) fun y => T.ite (y.1 == (3 : Int)) (T.ite (decide (((0 : Nat) + List.length x.2.2.2.1.1.1) * nat_lit 56 ≤ most)) (T.ite (decide (((0 : Nat) + List.length x.2.2.2.1.1.1 + (1 : Nat)) * nat_lit 56 ≤ most)) (T.ite (decide ((x.2.2.1.1.length + (1 : Nat)) * nat_lit 56 ≤ most)) (T.ite (!W ((↑(x.2.2.1.1.length + (1 : Nat)) : Int) - (1 : Int)) == (↑(List.length x.2.2.2.1.1.1) : Int)) (T.ret (Ex.ret, x.1, false, (List.take (x.2.2.1.1.length + (1 : Nat)) (List.take x.2.2.1.1.length x.2.2.1.1 ++ [y.2.2.2.2.2.2.2.1]), List.take x.2.2.1.2.1.length x.2.2.1.2.1, List.take x.2.2.1.2.2.1.length x.2.2.1.2.2.1, x.2.2.1.2.2.2.1, List.take x.2.2.1.2.2.2.2.1.length x.2.2.1.2.2.2.2.1, x.2.2.1.2.2.2.2.2.1, x.2.2.1.2.2.2.2.2.2.1, x.2.2.1.2.2.2.2.2.2.2.1, List.take x.2.2.1.2.2.2.2.2.2.2.2.1.length x.2.2.1.2.2.2.2.2.2.2.2.1, List.take x.2.2.1.2.2.2.2.2.2.2.2.2.1.length x.2.2.1.2.2.2.2.2.2.2.2.2.1, ()), ((List.take ((0 : Nat) + List.length x.2.2.2.1.1.1 + (1 : Nat)) (List.take ((0 : Nat) + List.length x.2.2.2.1.1.1) (List.take (0 : Nat) [] ++ x.2.2.2.1.1.1) ++ [y.2.2.2.2.2.2.2.1]), x.2.2.2.1.1.2), x.2.2.2.1.2), x.2.2.2.2.1, ())) (T.ite ((↑(List.take x.2.2.1.2.2.2.2.2.2.2.2.1.length x.2.2.1.2.2.2.2.2.2.2.2.1).length : Int) != (↑(List.length x.2.2.2.1.2.1) : Int)) (T.ret (Ex.ret, x.1, false, (List.take (x.2.2.1.1.length + (1 : Nat)) (List.take x.2.2.1.1.length x.2.2.1.1 ++ [y.2.2.2.2.2.2.2.1]), List.take x.2.2.1.2.1.length x.2.2.1.2.1, List.take x.2.2.1.2.2.1.length x.2.2.1.2.2.1, x.2.2.1.2.2.2.1, List.take x.2.2.1.2.2.2.2.1.length x.2.2.1.2.2.2.2.1, x.2.2.1.2.2.2.2.2.1, x.2.2.1.2.2.2.2.2.2.1, x.2.2.1.2.2.2.2.2.2.2.1, List.take x.2.2.1.2.2.2.2.2.2.2.2.1.length x.2.2.1.2.2.2.2.2.2.2.2.1, List.take x.2.2.1.2.2.2.2.2.2.2.2.2.1.length x.2.2.1.2.2.2.2.2.2.2.2.2.1, ()), ((List.take ((0 : Nat) + List.length x.2.2.2.1.1.1 + (1 : Nat)) (List.take ((0 : Nat) + List.length x.2.2.2.1.1.1) (List.take (0 : Nat) [] ++ x.2.2.2.1.1.1) ++ [y.2.2.2.2.2.2.2.1]), x.2.2.2.1.1.2), x.2.2.2.1.2), x.2.2.2.2.1, ())) (T.ret (Ex.normal, x.1, x.2.1, (List.take (x.2.2.1.1.length + (1 : Nat)) (List.take x.2.2.1.1.length x.2.2.1.1 ++ [y.2.2.2.2.2.2.2.1]), List.take x.2.2.1.2.1.length x.2.2.1.2.1, List.take x.2.2.1.2.2.1.length x.2.2.1.2.2.1, x.2.2.1.2.2.2.1, List.take x.2.2.1.2.2.2.2.1.length x.2.2.1.2.2.2.2.1, x.2.2.1.2.2.2.2.2.1, x.2.2.1.2.2.2.2.2.2.1, x.2.2.1.2.2.2.2.2.2.2.1, List.take x.2.2.1.2.2.2.2.2.2.2.2.1.length x.2.2.1.2.2.2.2.2.2.2.2.1, List.take x.2.2.1.2.2.2.2.2.2.2.2.2.1.length x.2.2.1.2.2.2.2.2.2.2.2.2.1, ()), ((List.take ((0 : Nat) + List.length x.2.2.2.1.1.1 + (1 : Nat)) (List.take ((0 : Nat) + List.length x.2.2.2.1.1.1) (List.take (0 : Nat) [] ++ x.2.2.2.1.1.1) ++ [y.2.2.2.2.2.2.2.1]), x.2.2.2.1.1.2), x.2.2.2.1.2), W (x.2.2.2.2.1 + (1 : Int)), ())))) T.fail) T.fail) T.fail) (T.ite (y.1 == (4 : Int)) (T.opt (law47_Made_shine (x.2.2.2.1, y)) fun y_1 => T.ite (decide (y.2.2.2.1 < (0 : Int))) (T.ite (!(8 : Int) == y_1.snd) (T.ret (Ex.ret, x.1, false, (List.take x.2.2.1.1.length x.2.2.1.1, List.take x.2.2.1.2.1.length x.2.2.1.2.1, List.take x.2.2.1.2.2.1.length x.2.2.1.2.2.1, x.2.2.1.2.2.2.1, List.take x.2.2.1.2.2.2.2.1.length x.2.2.1.2.2.2.2.1, x.2.2.1.2.2.2.2.2.1, x.2.2.1.2.2.2.2.2.2.1, x.2.2.1.2.2.2.2.2.2.2.1, List.take x.2.2.1.2.2.2.2.2.2.2.2.1.length x.2.2.1.2.2.2.2.2.2.2.2.1, List.take x.2.2.1.2.2.2.2.2.2.2.2.2.1.length x.2.2.1.2.2.2.2.2.2.2.2.2.1, ()), y_1.fst, x.2.2.2.2.1, ())) (T.ite ((↑(List.take x.2.2.1.2.2.2.2.2.2.2.2.1.length x.2.2.1.2.2.2.2.2.2.2.2.1).length : Int) != (↑(List.length y_1.fst.snd.fst) : Int)) (T.ret (Ex.ret, x.1, false, (List.take x.2.2.1.1.length x.2.2.1.1, List.take x.2.2.1.2.1.length x.2.2.1.2.1, List.take x.2.2.1.2.2.1.length x.2.2.1.2.2.1, x.2.2.1.2.2.2.1, List.take x.2.2.1.2.2.2.2.1.length x.2.2.1.2.2.2.2.1, x.2.2.1.2.2.2.2.2.1, x.2.2.1.2.2.2.2.2.2.1, x.2.2.1.2.2.2.2.2.2.2.1, List.take x.2.2.1.2.2.2.2.2.2.2.2.1.length x.2.2.1.2.2.2.2.2.2.2.2.1, List.take x.2.2.1.2.2.2.2.2.2.2.2.2.1.length x.2.2.1.2.2.2.2.2.2.2.2.2.1, ()), y_1.fst, x.2.2.2.2.1, ())) (T.ret (Ex.normal, x.1, x.2.1, (List.take x.2.2.1.1.length x.2.2.1.1, List.take x.2.2.1.2.1.length x.2.2.1.2.1, List.take x.2.2.1.2.2.1.length x.2.2.1.2.2.1, x.2.2.1.2.2.2.1, List.take x.2.2.1.2.2.2.2.1.length x.2.2.1.2.2.2.2.1, x.2.2.1.2.2.2.2.2.1, x.2.2.1.2.2.2.2.2.2.1, x.2.2.1.2.2.2.2.2.2.2.1, List.take x.2.2.1.2.2.2.2.2.2.2.2.1.length x.2.2.1.2.2.2.2.2.2.2.2.1, List.take x.2.2.1.2.2.2.2.2.2.2.2.2.1.length x.2.2.1.2.2.2.2.2.2.2.2.2.1, ()), y_1.fst, W (x.2.2.2.2.1 + (1 : Int)), ())))) (T.ite (decide (y.2.2.2.1 ≥ (↑(List.take x.2.2.1.2.2.2.2.2.2.2.2.1.length x.2.2.1.2.2.2.2.2.2.2.2.1).length : Int))) (T.ite (!(8 : Int) == y_1.snd) (T.ret (Ex.ret, x.1, false, (List.take x.2.2.1.1.length x.2.2.1.1, List.take x.2.2.1.2.1.length x.2.2.1.2.1, List.take x.2.2.1.2.2.1.length x.2.2.1.2.2.1, x.2.2.1.2.2.2.1, List.take x.2.2.1.2.2.2.2.1.length x.2.2.1.2.2.2.2.1, x.2.2.1.2.2.2.2.2.1, x.2.2.1.2.2.2.2.2.2.1, x.2.2.1.2.2.2.2.2.2.2.1, List.take x.2.2.1.2.2.2.2.2.2.2.2.1.length x.2.2.1.2.2.2.2.2.2.2.2.1, List.take x.2.2.1.2.2.2.2.2.2.2.2.2.1.length x.2.2.1.2.2.2.2.2.2.2.2.2.1, ()), y_1.fst, x.2.2.2.2.1, ())) (T.ite ((↑(List.take x.2.2.1.2.2.2.2.2.2.2.2.1.length x.2.2.1.2.2.2.2.2.2.2.2.1).length : Int) != (↑(List.length y_1.fst.snd.fst) : Int)) (T.ret (Ex.ret, x.1, false, (List.take x.2.2.1.1.length x.2.2.1.1, List.take x.2.2.1.2.1.length x.2.2.1.2.1, List.take x.2.2.1.2.2.1.length x.2.2.1.2.2.1, x.2.2.1.2.2.2.1, List.take x.2.2.1.2.2.2.2.1.length x.2.2.1.2.2.2.2.1, x.2.2.1.2.2.2.2.2.1, x.2.2.1.2.2.2.2.2.2.1, x.2.2.1.2.2.2.2.2.2.2.1, List.take x.2.2.1.2.2.2.2.2.2.2.2.1.length x.2.2.1.2.2.2.2.2.2.2.2.1, List.take x.2.2.1.2.2.2.2.2.2.2.2.2.1.length x.2.2.1.2.2.2.2.2.2.2.2.2.1, ()), y_1.fst, x.2.2.2.2.1, ())) (T.ret (Ex.normal, x.1, x.2.1, (List.take x.2.2.1.1.length x.2.2.1.1, List.take x.2.2.1.2.1.length x.2.2.1.2.1, List.take x.2.2.1.2.2.1.length x.2.2.1.2.2.1, x.2.2.1.2.2.2.1, List.take x.2.2.1.2.2.2.2.1.length x.2.2.1.2.2.2.2.1, x.2.2.1.2.2.2.2.2.1, x.2.2.1.2.2.2.2.2.2.1, x.2.2.1.2.2.2.2.2.2.2.1, List.take x.2.2.1.2.2.2.2.2.2.2.2.1.length x.2.2.1.2.2.2.2.2.2.2.2.1, List.take x.2.2.1.2.2.2.2.2.2.2.2.2.1.length x.2.2.1.2.2.2.2.2.2.2.2.2.1, ()), y_1.fst, W (x.2.2.2.2.1 + (1 : Int)), ())))) (T.ite (decide ((0 : Int) ≤ y.2.2.2.1) && decide (y.2.2.2.1 < (↑x.2.2.1.2.2.2.2.2.2.2.2.2.1.length : Int))) (T.opt x.2.2.1.2.2.2.2.2.2.2.2.2.1[(0 : Nat) + Int.toNat y.2.2.2.1]? fun y_2 => T.ite y_2 (T.ite (!(2 : Int) == y_1.snd) (T.ret (Ex.ret, x.1, false, (List.take x.2.2.1.1.length x.2.2.1.1, List.take x.2.2.1.2.1.length x.2.2.1.2.1, List.take x.2.2.1.2.2.1.length x.2.2.1.2.2.1, x.2.2.1.2.2.2.1, List.take x.2.2.1.2.2.2.2.1.length x.2.2.1.2.2.2.2.1, x.2.2.1.2.2.2.2.2.1, x.2.2.1.2.2.2.2.2.2.1, x.2.2.1.2.2.2.2.2.2.2.1, List.take x.2.2.1.2.2.2.2.2.2.2.2.1.length x.2.2.1.2.2.2.2.2.2.2.2.1, List.take x.2.2.1.2.2.2.2.2.2.2.2.2.1.length x.2.2.1.2.2.2.2.2.2.2.2.2.1, ()), y_1.fst, x.2.2.2.2.1, ())) (T.ite ((↑(List.take x.2.2.1.2.2.2.2.2.2.2.2.1.length x.2.2.1.2.2.2.2.2.2.2.2.1).length : Int) != (↑(List.length y_1.fst.snd.fst) : Int)) (T.ret (Ex.ret, x.1, false, (List.take x.2.2.1.1.length x.2.2.1.1, List.take x.2.2.1.2.1.length x.2.2.1.2.1, List.take x.2.2.1.2.2.1.length x.2.2.1.2.2.1, x.2.2.1.2.2.2.1, List.take x.2.2.1.2.2.2.2.1.length x.2.2.1.2.2.2.2.1, x.2.2.1.2.2.2.2.2.1, x.2.2.1.2.2.2.2.2.2.1, x.2.2.1.2.2.2.2.2.2.2.1, List.take x.2.2.1.2.2.2.2.2.2.2.2.1.length x.2.2.1.2.2.2.2.2.2.2.2.1, List.take x.2.2.1.2.2.2.2.2.2.2.2.2.1.length x.2.2.1.2.2.2.2.2.2.2.2.2.1, ()), y_1.fst, x.2.2.2.2.1, ())) (T.ret (Ex.normal, x.1, x.2.1, (List.take x.2.2.1.1.length x.2.2.1.1, List.take x.2.2.1.2.1.length x.2.2.1.2.1, List.take x.2.2.1.2.2.1.length x.2.2.1.2.2.1, x.2.2.1.2.2.2.1, List.take x.2.2.1.2.2.2.2.1.length x.2.2.1.2.2.2.2.1, x.2.2.1.2.2.2.2.2.1, x.2.2.1.2.2.2.2.2.2.1, x.2.2.1.2.2.2.2.2.2.2.1, List.take x.2.2.1.2.2.2.2.2.2.2.2.1.length x.2.2.1.2.2.2.2.2.2.2.2.1, List.take x.2.2.1.2.2.2.2.2.2.2.2.2.1.length x.2.2.1.2.2.2.2.2.2.2.2.2.1, ()), y_1.fst, W (x.2.2.2.2.1 + (1 : Int)), ())))) (T.ite (decide ((0 : Int) ≤ y.2.2.2.1) && decide (y.2.2.2.1 < (↑x.2.2.1.2.2.2.2.2.2.2.2.2.1.length : Int))) (T.opt x.2.2.1.2.2.2.2.2.2.2.2.2.1[(0 : Nat) + Int.toNat y.2.2.2.1]? fun y_3 => T.opt (build_Builder_Tris (((List.take x.2.2.1.1.length x.2.2.1.1, List.take x.2.2.1.2.1.length x.2.2.1.2.1, List.take x.2.2.1.2.2.1.length x.2.2.1.2.2.1, x.2.2.1.2.2.2.1, List.take x.2.2.1.2.2.2.2.1.length x.2.2.1.2.2.2.2.1, x.2.2.1.2.2.2.2.2.1, x.2.2.1.2.2.2.2.2.2.1, x.2.2.1.2.2.2.2.2.2.2.1), List.take x.2.2.1.2.2.2.2.2.2.2.2.1.length x.2.2.1.2.2.2.2.2.2.2.2.1, List.take x.2.2.1.2.2.2.2.2.2.2.2.2.1.length (x.2.2.1.2.2.2.2.2.2.2.2.2.1.set ((0 : Nat) + Int.toNat y.2.2.2.1) true)), y.2.2.2.1)) fun y_4 => T.opt (eachShine.l0 ((List.take x.2.2.1.1.length x.2.2.1.1, List.take x.2.2.1.2.1.length x.2.2.1.2.1, List.take x.2.2.1.2.2.1.length x.2.2.1.2.2.1, x.2.2.1.2.2.2.1, List.take x.2.2.1.2.2.2.2.1.length x.2.2.1.2.2.2.2.1, x.2.2.1.2.2.2.2.2.1, x.2.2.1.2.2.2.2.2.2.1, x.2.2.1.2.2.2.2.2.2.2.1, List.take x.2.2.1.2.2.2.2.2.2.2.2.1.length x.2.2.1.2.2.2.2.2.2.2.2.1, List.take x.2.2.1.2.2.2.2.2.2.2.2.2.1.length (x.2.2.1.2.2.2.2.2.2.2.2.2.1.set ((0 : Nat) + Int.toNat y.2.2.2.1) true), ()), (), y.2.2.2.2.2.1, y_4.snd, y_4.fst, ())) fun y => T.ite (exEq y.1 (Ex.exit (0 : Nat))) (T.ite (!(0 : Int) == y_1.snd) (T.ret (Ex.ret, x.1, false, (List.take y.2.1.1.length y.2.1.1, List.take y.2.1.2.1.length y.2.1.2.1, List.take y.2.1.2.2.1.length y.2.1.2.2.1, y.2.1.2.2.2.1, List.take y.2.1.2.2.2.2.1.length y.2.1.2.2.2.2.1, y.2.1.2.2.2.2.2.1, y.2.1.2.2.2.2.2.2.1, y.2.1.2.2.2.2.2.2.2.1, List.take y.2.1.2.2.2.2.2.2.2.2.1.length y.2.1.2.2.2.2.2.2.2.2.1, List.take y.2.1.2.2.2.2.2.2.2.2.2.1.length y.2.1.2.2.2.2.2.2.2.2.2.1, ()), y_1.fst, x.2.2.2.2.1, ())) (T.ite ((↑(List.take y.2.1.2.2.2.2.2.2.2.2.1.length y.2.1.2.2.2.2.2.2.2.2.1).length : Int) != (↑(List.length y_1.fst.snd.fst) : Int)) (T.ret (Ex.ret, x.1, false, (List.take y.2.1.1.length y.2.1.1, List.take y.2.1.2.1.length y.2.1.2.1, List.take y.2.1.2.2.1.length y.2.1.2.2.1, y.2.1.2.2.2.1, List.take y.2.1.2.2.2.2.1.length y.2.1.2.2.2.2.1, y.2.1.2.2.2.2.2.1, y.2.1.2.2.2.2.2.2.1, y.2.1.2.2.2.2.2.2.2.1, List.take y.2.1.2.2.2.2.2.2.2.2.1.length y.2.1.2.2.2.2.2.2.2.2.1, List.take y.2.1.2.2.2.2.2.2.2.2.2.1.length y.2.1.2.2.2.2.2.2.2.2.2.1, ()), y_1.fst, x.2.2.2.2.1, ())) (T.ret (Ex.normal, x.1, x.2.1, (List.take y.2.1.1.length y.2.1.1, List.take y.2.1.2.1.length y.2.1.2.1, List.take y.2.1.2.2.1.length y.2.1.2.2.1, y.2.1.2.2.2.1, List.take y.2.1.2.2.2.2.1.length y.2.1.2.2.2.2.1, y.2.1.2.2.2.2.2.1, y.2.1.2.2.2.2.2.2.1, y.2.1.2.2.2.2.2.2.2.1, List.take y.2.1.2.2.2.2.2.2.2.2.1.length y.2.1.2.2.2.2.2.2.2.2.1, List.take y.2.1.2.2.2.2.2.2.2.2.2.1.length y.2.1.2.2.2.2.2.2.2.2.2.1, ()), y_1.fst, W (x.2.2.2.2.1 + (1 : Int)), ())))) T.fail) T.fail)) T.fail))) (T.ite (y.1 == (5 : Int)) (T.ite ((↑(List.length y.2.2.2.2.2.2.2.2) : Int) == (0 : Int)) (T.ite ((↑(List.length y.2.2.2.2.2.2.2.2) : Int) == (0 : Int)) (T.ite (!(14 : Int) == (14 : Int)) (T.ret (Ex.ret, x.1, false, (List.take x.2.2.1.1.length x.2.2.1.1, List.take x.2.2.1.2.1.length x.2.2.1.2.1, List.take x.2.2.1.2.2.1.length x.2.2.1.2.2.1, x.2.2.1.2.2.2.1, List.take x.2.2.1.2.2.2.2.1.length x.2.2.1.2.2.2.2.1, x.2.2.1.2.2.2.2.2.1, x.2.2.1.2.2.2.2.2.2.1, x.2.2.1.2.2.2.2.2.2.2.1, List.take x.2.2.1.2.2.2.2.2.2.2.2.1.length x.2.2.1.2.2.2.2.2.2.2.2.1, List.take x.2.2.1.2.2.2.2.2.2.2.2.2.1.length x.2.2.1.2.2.2.2.2.2.2.2.2.1, ()), x.2.2.2.1, x.2.2.2.2.1, ())) (T.ite ((↑(List.take x.2.2.1.2.2.2.2.2.2.2.2.1.length x.2.2.1.2.2.2.2.2.2.2.2.1).length : Int) != (↑(List.length x.2.2.2.1.2.1) : Int)) (T.ret (Ex.ret, x.1, false, (List.take x.2.2.1.1.length x.2.2.1.1, List.take x.2.2.1.2.1.length x.2.2.1.2.1, List.take x.2.2.1.2.2.1.length x.2.2.1.2.2.1, x.2.2.1.2.2.2.1, List.take x.2.2.1.2.2.2.2.1.length x.2.2.1.2.2.2.2.1, x.2.2.1.2.2.2.2.2.1, x.2.2.1.2.2.2.2.2.2.1, x.2.2.1.2.2.2.2.2.2.2.1, List.take x.2.2.1.2.2.2.2.2.2.2.2.1.length x.2.2.1.2.2.2.2.2.2.2.2.1, List.take x.2.2.1.2.2.2.2.2.2.2.2.2.1.length x.2.2.1.2.2.2.2.2.2.2.2.2.1, ()), x.2.2.2.1, x.2.2.2.2.1, ())) (T.ret (Ex.normal, x.1, x.2.1, (List.take x.2.2.1.1.length x.2.2.1.1, List.take x.2.2.1.2.1.length x.2.2.1.2.1, List.take x.2.2.1.2.2.1.length x.2.2.1.2.2.1, x.2.2.1.2.2.2.1, List.take x.2.2.1.2.2.2.2.1.length x.2.2.1.2.2.2.2.1, x.2.2.1.2.2.2.2.2.1, x.2.2.1.2.2.2.2.2.2.1, x.2.2.1.2.2.2.2.2.2.2.1, List.take x.2.2.1.2.2.2.2.2.2.2.2.1.length x.2.2.1.2.2.2.2.2.2.2.2.1, List.take x.2.2.1.2.2.2.2.2.2.2.2.2.1.length x.2.2.1.2.2.2.2.2.2.2.2.2.1, ()), x.2.2.2.1, W (x.2.2.2.2.1 + (1 : Int)), ())))) (T.ite ((↑(List.length y.2.2.2.2.2.2.2.2) : Int).tmod (8 : Int) != (0 : Int) || decide ((↑(List.length y.2.2.2.2.2.2.2.2) : Int) > (128 : Int))) (T.ite (!(14 : Int) == (14 : Int)) (T.ret (Ex.ret, x.1, false, (List.take x.2.2.1.1.length x.2.2.1.1, List.take x.2.2.1.2.1.length x.2.2.1.2.1, List.take x.2.2.1.2.2.1.length x.2.2.1.2.2.1, x.2.2.1.2.2.2.1, List.take x.2.2.1.2.2.2.2.1.length x.2.2.1.2.2.2.2.1, x.2.2.1.2.2.2.2.2.1, x.2.2.1.2.2.2.2.2.2.1, x.2.2.1.2.2.2.2.2.2.2.1, List.take x.2.2.1.2.2.2.2.2.2.2.2.1.length x.2.2.1.2.2.2.2.2.2.2.2.1, List.take x.2.2.1.2.2.2.2.2.2.2.2.2.1.length x.2.2.1.2.2.2.2.2.2.2.2.2.1, ()), x.2.2.2.1, x.2.2.2.2.1, ())) (T.ite ((↑(List.take x.2.2.1.2.2.2.2.2.2.2.2.1.length x.2.2.1.2.2.2.2.2.2.2.2.1).length : Int) != (↑(List.length x.2.2.2.1.2.1) : Int)) (T.ret (Ex.ret, x.1, false, (List.take x.2.2.1.1.length x.2.2.1.1, List.take x.2.2.1.2.1.length x.2.2.1.2.1, List.take x.2.2.1.2.2.1.length x.2.2.1.2.2.1, x.2.2.1.2.2.2.1, List.take x.2.2.1.2.2.2.2.1.length x.2.2.1.2.2.2.2.1, x.2.2.1.2.2.2.2.2.1, x.2.2.1.2.2.2.2.2.2.1, x.2.2.1.2.2.2.2.2.2.2.1, List.take x.2.2.1.2.2.2.2.2.2.2.2.1.length x.2.2.1.2.2.2.2.2.2.2.2.1, List.take x.2.2.1.2.2.2.2.2.2.2.2.2.1.length x.2.2.1.2.2.2.2.2.2.2.2.2.1, ()), x.2.2.2.1, x.2.2.2.2.1, ())) (T.ret (Ex.normal, x.1, x.2.1, (List.take x.2.2.1.1.length x.2.2.1.1, List.take x.2.2.1.2.1.length x.2.2.1.2.1, List.take x.2.2.1.2.2.1.length x.2.2.1.2.2.1, x.2.2.1.2.2.2.1, List.take x.2.2.1.2.2.2.2.1.length x.2.2.1.2.2.2.2.1, x.2.2.1.2.2.2.2.2.1, x.2.2.1.2.2.2.2.2.2.1, x.2.2.1.2.2.2.2.2.2.2.1, List.take x.2.2.1.2.2.2.2.2.2.2.2.1.length x.2.2.1.2.2.2.2.2.2.2.2.1, List.take x.2.2.1.2.2.2.2.2.2.2.2.2.1.length x.2.2.1.2.2.2.2.2.2.2.2.2.1, ()), x.2.2.2.1, W (x.2.2.2.2.1 + (1 : Int)), ())))) (T.ite (decide (x.2.2.2.1.1.2.2.2.1 > (0 : Int))) (T.ite (!(14 : Int) == (2 : Int)) (T.ret (Ex.ret, x.1, false, (List.take x.2.2.1.1.length x.2.2.1.1, List.take x.2.2.1.2.1.length x.2.2.1.2.1, List.take x.2.2.1.2.2.1.length x.2.2.1.2.2.1, x.2.2.1.2.2.2.1, List.take x.2.2.1.2.2.2.2.1.length x.2.2.1.2.2.2.2.1, x.2.2.1.2.2.2.2.2.1, x.2.2.1.2.2.2.2.2.2.1, x.2.2.1.2.2.2.2.2.2.2.1, List.take x.2.2.1.2.2.2.2.2.2.2.2.1.length x.2.2.1.2.2.2.2.2.2.2.2.1, List.take x.2.2.1.2.2.2.2.2.2.2.2.2.1.length x.2.2.1.2.2.2.2.2.2.2.2.2.1, ()), x.2.2.2.1, x.2.2.2.2.1, ())) (T.ite ((↑(List.take x.2.2.1.2.2.2.2.2.2.2.2.1.length x.2.2.1.2.2.2.2.2.2.2.2.1).length : Int) != (↑(List.length x.2.2.2.1.2.1) : Int)) (T.ret (Ex.ret, x.1, false, (List.take x.2.2.1.1.length x.2.2.1.1, List.take x.2.2.1.2.1.length x.2.2.1.2.1, List.take x.2.2.1.2.2.1.length x.2.2.1.2.2.1, x.2.2.1.2.2.2.1, List.take x.2.2.1.2.2.2.2.1.length x.2.2.1.2.2.2.2.1, x.2.2.1.2.2.2.2.2.1, x.2.2.1.2.2.2.2.2.2.1, x.2.2.1.2.2.2.2.2.2.2.1, List.take x.2.2.1.2.2.2.2.2.2.2.2.1.length x.2.2.1.2.2.2.2.2.2.2.2.1, List.take x.2.2.1.2.2.2.2.2.2.2.2.2.1.length x.2.2.1.2.2.2.2.2.2.2.2.2.1, ()), x.2.2.2.1, x.2.2.2.2.1, ())) (T.ret (Ex.normal, x.1, x.2.1, (List.take x.2.2.1.1.length x.2.2.1.1, List.take x.2.2.1.2.1.length x.2.2.1.2.1, List.take x.2.2.1.2.2.1.length x.2.2.1.2.2.1, x.2.2.1.2.2.2.1, List.take x.2.2.1.2.2.2.2.1.length x.2.2.1.2.2.2.2.1, x.2.2.1.2.2.2.2.2.1, x.2.2.1.2.2.2.2.2.2.1, x.2.2.1.2.2.2.2.2.2.2.1, List.take x.2.2.1.2.2.2.2.2.2.2.2.1.length x.2.2.1.2.2.2.2.2.2.2.2.1, List.take x.2.2.1.2.2.2.2.2.2.2.2.2.1.length x.2.2.1.2.2.2.2.2.2.2.2.2.1, ()), x.2.2.2.1, W (x.2.2.2.2.1 + (1 : Int)), ())))) (T.ite (!(14 : Int) == (0 : Int)) (T.ret (Ex.ret, x.1, false, (List.take x.2.2.1.1.length x.2.2.1.1, List.take x.2.2.1.2.1.length x.2.2.1.2.1, List.take x.2.2.1.2.2.1.length x.2.2.1.2.2.1, x.2.2.1.2.2.2.1, List.take x.2.2.1.2.2.2.2.1.length x.2.2.1.2.2.2.2.1, x.2.2.1.2.2.2.2.2.1, x.2.2.1.2.2.2.2.2.2.1, x.2.2.1.2.2.2.2.2.2.2.1, List.take x.2.2.1.2.2.2.2.2.2.2.2.1.length x.2.2.1.2.2.2.2.2.2.2.2.1, List.take x.2.2.1.2.2.2.2.2.2.2.2.2.1.length x.2.2.1.2.2.2.2.2.2.2.2.2.1, ()), ((x.2.2.2.1.1.1, x.2.2.2.1.1.2.1, x.2.2.2.1.1.2.2.1, W ((↑(List.length y.2.2.2.2.2.2.2.2) : Int).tdiv (8 : Int)), y.2.2.2.2.2.2.2.2, x.2.2.2.1.1.2.2.2.2.2), x.2.2.2.1.2), x.2.2.2.2.1, ())) (T.ite ((↑(List.take x.2.2.1.2.2.2.2.2.2.2.2.1.length x.2.2.1.2.2.2.2.2.2.2.2.1).length : Int) != (↑(List.length x.2.2.2.1.2.1) : Int)) (T.ret (Ex.ret, x.1, false, (List.take x.2.2.1.1.length x.2.2.1.1, List.take x.2.2.1.2.1.length x.2.2.1.2.1, List.take x.2.2.1.2.2.1.length x.2.2.1.2.2.1, x.2.2.1.2.2.2.1, List.take x.2.2.1.2.2.2.2.1.length x.2.2.1.2.2.2.2.1, x.2.2.1.2.2.2.2.2.1, x.2.2.1.2.2.2.2.2.2.1, x.2.2.1.2.2.2.2.2.2.2.1, List.take x.2.2.1.2.2.2.2.2.2.2.2.1.length x.2.2.1.2.2.2.2.2.2.2.2.1, List.take x.2.2.1.2.2.2.2.2.2.2.2.2.1.length x.2.2.1.2.2.2.2.2.2.2.2.2.1, ()), ((x.2.2.2.1.1.1, x.2.2.2.1.1.2.1, x.2.2.2.1.1.2.2.1, W ((↑(List.length y.2.2.2.2.2.2.2.2) : Int).tdiv (8 : Int)), y.2.2.2.2.2.2.2.2, x.2.2.2.1.1.2.2.2.2.2), x.2.2.2.1.2), x.2.2.2.2.1, ())) (T.ret (Ex.normal, x.1, x.2.1, (List.take x.2.2.1.1.length x.2.2.1.1, List.take x.2.2.1.2.1.length x.2.2.1.2.1, List.take x.2.2.1.2.2.1.length x.2.2.1.2.2.1, x.2.2.1.2.2.2.1, List.take x.2.2.1.2.2.2.2.1.length x.2.2.1.2.2.2.2.1, x.2.2.1.2.2.2.2.2.1, x.2.2.1.2.2.2.2.2.2.1, x.2.2.1.2.2.2.2.2.2.2.1, List.take x.2.2.1.2.2.2.2.2.2.2.2.1.length x.2.2.1.2.2.2.2.2.2.2.2.1, List.take x.2.2.1.2.2.2.2.2.2.2.2.2.1.length x.2.2.1.2.2.2.2.2.2.2.2.2.1, ()), ((x.2.2.2.1.1.1, x.2.2.2.1.1.2.1, x.2.2.2.1.1.2.2.1, W ((↑(List.length y.2.2.2.2.2.2.2.2) : Int).tdiv (8 : Int)), y.2.2.2.2.2.2.2.2, x.2.2.2.1.1.2.2.2.2.2), x.2.2.2.1.2), W (x.2.2.2.2.1 + (1 : Int)), ()))))))) (T.ite ((↑(List.length y.2.2.2.2.2.2.2.2) : Int).tmod (8 : Int) != (0 : Int) || decide (W ((↑(List.length y.2.2.2.2.2.2.2.2) : Int).tdiv (8 : Int)) > (16 : Int))) (T.ite ((↑(List.length y.2.2.2.2.2.2.2.2) : Int) == (0 : Int)) (T.ite (!(14 : Int) == (14 : Int)) (T.ret (Ex.ret, x.1, false, (List.take x.2.2.1.1.length x.2.2.1.1, List.take x.2.2.1.2.1.length x.2.2.1.2.1, List.take x.2.2.1.2.2.1.length x.2.2.1.2.2.1, x.2.2.1.2.2.2.1, List.take x.2.2.1.2.2.2.2.1.length x.2.2.1.2.2.2.2.1, x.2.2.1.2.2.2.2.2.1, x.2.2.1.2.2.2.2.2.2.1, x.2.2.1.2.2.2.2.2.2.2.1, List.take x.2.2.1.2.2.2.2.2.2.2.2.1.length x.2.2.1.2.2.2.2.2.2.2.2.1, List.take x.2.2.1.2.2.2.2.2.2.2.2.2.1.length x.2.2.1.2.2.2.2.2.2.2.2.2.1, ()), x.2.2.2.1, x.2.2.2.2.1, ())) (T.ite ((↑(List.take x.2.2.1.2.2.2.2.2.2.2.2.1.length x.2.2.1.2.2.2.2.2.2.2.2.1).length : Int) != (↑(List.length x.2.2.2.1.2.1) : Int)) (T.ret (Ex.ret, x.1, false, (List.take x.2.2.1.1.length x.2.2.1.1, List.take x.2.2.1.2.1.length x.2.2.1.2.1, List.take x.2.2.1.2.2.1.length x.2.2.1.2.2.1, x.2.2.1.2.2.2.1, List.take x.2.2.1.2.2.2.2.1.length x.2.2.1.2.2.2.2.1, x.2.2.1.2.2.2.2.2.1, x.2.2.1.2.2.2.2.2.2.1, x.2.2.1.2.2.2.2.2.2.2.1, List.take x.2.2.1.2.2.2.2.2.2.2.2.1.length x.2.2.1.2.2.2.2.2.2.2.2.1, List.take x.2.2.1.2.2.2.2.2.2.2.2.2.1.length x.2.2.1.2.2.2.2.2.2.2.2.2.1, ()), x.2.2.2.1, x.2.2.2.2.1, ())) (T.ret (Ex.normal, x.1, x.2.1, (List.take x.2.2.1.1.length x.2.2.1.1, List.take x.2.2.1.2.1.length x.2.2.1.2.1, List.take x.2.2.1.2.2.1.length x.2.2.1.2.2.1, x.2.2.1.2.2.2.1, List.take x.2.2.1.2.2.2.2.1.length x.2.2.1.2.2.2.2.1, x.2.2.1.2.2.2.2.2.1, x.2.2.1.2.2.2.2.2.2.1, x.2.2.1.2.2.2.2.2.2.2.1, List.take x.2.2.1.2.2.2.2.2.2.2.2.1.length x.2.2.1.2.2.2.2.2.2.2.2.1, List.take x.2.2.1.2.2.2.2.2.2.2.2.2.1.length x.2.2.1.2.2.2.2.2.2.2.2.2.1, ()), x.2.2.2.1, W (x.2.2.2.2.1 + (1 : Int)), ())))) (T.ite ((↑(List.length y.2.2.2.2.2.2.2.2) : Int).tmod (8 : Int) != (0 : Int) || decide ((↑(List.length y.2.2.2.2.2.2.2.2) : Int) > (128 : Int))) (T.ite (!(14 : Int) == (14 : Int)) (T.ret (Ex.ret, x.1, false, (List.take x.2.2.1.1.length x.2.2.1.1, List.take x.2.2.1.2.1.length x.2.2.1.2.1, List.take x.2.2.1.2.2.1.length x.2.2.1.2.2.1, x.2.2.1.2.2.2.1, List.take x.2.2.1.2.2.2.2.1.length x.2.2.1.2.2.2.2.1, x.2.2.1.2.2.2.2.2.1, x.2.2.1.2.2.2.2.2.2.1, x.2.2.1.2.2.2.2.2.2.2.1, List.take x.2.2.1.2.2.2.2.2.2.2.2.1.length x.2.2.1.2.2.2.2.2.2.2.2.1, List.take x.2.2.1.2.2.2.2.2.2.2.2.2.1.length x.2.2.1.2.2.2.2.2.2.2.2.2.1, ()), x.2.2.2.1, x.2.2.2.2.1, ())) (T.ite ((↑(List.take x.2.2.1.2.2.2.2.2.2.2.2.1.length x.2.2.1.2.2.2.2.2.2.2.2.1).length : Int) != (↑(List.length x.2.2.2.1.2.1) : Int)) (T.ret (Ex.ret, x.1, false, (List.take x.2.2.1.1.length x.2.2.1.1, List.take x.2.2.1.2.1.length x.2.2.1.2.1, List.take x.2.2.1.2.2.1.length x.2.2.1.2.2.1, x.2.2.1.2.2.2.1, List.take x.2.2.1.2.2.2.2.1.length x.2.2.1.2.2.2.2.1, x.2.2.1.2.2.2.2.2.1, x.2.2.1.2.2.2.2.2.2.1, x.2.2.1.2.2.2.2.2.2.2.1, List.take x.2.2.1.2.2.2.2.2.2.2.2.1.length x.2.2.1.2.2.2.2.2.2.2.2.1, List.take x.2.2.1.2.2.2.2.2.2.2.2.2.1.length x.2.2.1.2.2.2.2.2.2.2.2.2.1, ()), x.2.2.2.1, x.2.2.2.2.1, ())) (T.ret (Ex.normal, x.1, x.2.1, (List.take x.2.2.1.1.length x.2.2.1.1, List.take x.2.2.1.2.1.length x.2.2.1.2.1, List.take x.2.2.1.2.2.1.length x.2.2.1.2.2.1, x.2.2.1.2.2.2.1, List.take x.2.2.1.2.2.2.2.1.length x.2.2.1.2.2.2.2.1, x.2.2.1.2.2.2.2.2.1, x.2.2.1.2.2.2.2.2.2.1, x.2.2.1.2.2.2.2.2.2.2.1, List.take x.2.2.1.2.2.2.2.2.2.2.2.1.length x.2.2.1.2.2.2.2.2.2.2.2.1, List.take x.2.2.1.2.2.2.2.2.2.2.2.2.1.length x.2.2.1.2.2.2.2.2.2.2.2.2.1, ()), x.2.2.2.1, W (x.2.2.2.2.1 + (1 : Int)), ())))) (T.ite (decide (x.2.2.2.1.1.2.2.2.1 > (0 : Int))) (T.ite (!(14 : Int) == (2 : Int)) (T.ret (Ex.ret, x.1, false, (List.take x.2.2.1.1.length x.2.2.1.1, List.take x.2.2.1.2.1.length x.2.2.1.2.1, List.take x.2.2.1.2.2.1.length x.2.2.1.2.2.1, x.2.2.1.2.2.2.1, List.take x.2.2.1.2.2.2.2.1.length x.2.2.1.2.2.2.2.1, x.2.2.1.2.2.2.2.2.1, x.2.2.1.2.2.2.2.2.2.1, x.2.2.1.2.2.2.2.2.2.2.1, List.take x.2.2.1.2.2.2.2.2.2.2.2.1.length x.2.2.1.2.2.2.2.2.2.2.2.1, List.take x.2.2.1.2.2.2.2.2.2.2.2.2.1.length x.2.2.1.2.2.2.2.2.2.2.2.2.1, ()), x.2.2.2.1, x.2.2.2.2.1, ())) (T.ite ((↑(List.take x.2.2.1.2.2.2.2.2.2.2.2.1.length x.2.2.1.2.2.2.2.2.2.2.2.1).length : Int) != (↑(List.length x.2.2.2.1.2.1) : Int)) (T.ret (Ex.ret, x.1, false, (List.take x.2.2.1.1.length x.2.2.1.1, List.take x.2.2.1.2.1.length x.2.2.1.2.1, List.take x.2.2.1.2.2.1.length x.2.2.1.2.2.1, x.2.2.1.2.2.2.1, List.take x.2.2.1.2.2.2.2.1.length x.2.2.1.2.2.2.2.1, x.2.2.1.2.2.2.2.2.1, x.2.2.1.2.2.2.2.2.2.1, x.2.2.1.2.2.2.2.2.2.2.1, List.take x.2.2.1.2.2.2.2.2.2.2.2.1.length x.2.2.1.2.2.2.2.2.2.2.2.1, List.take x.2.2.1.2.2.2.2.2.2.2.2.2.1.length x.2.2.1.2.2.2.2.2.2.2.2.2.1, ()), x.2.2.2.1, x.2.2.2.2.1, ())) (T.ret (Ex.normal, x.1, x.2.1, (List.take x.2.2.1.1.length x.2.2.1.1, List.take x.2.2.1.2.1.length x.2.2.1.2.1, List.take x.2.2.1.2.2.1.length x.2.2.1.2.2.1, x.2.2.1.2.2.2.1, List.take x.2.2.1.2.2.2.2.1.length x.2.2.1.2.2.2.2.1, x.2.2.1.2.2.2.2.2.1, x.2.2.1.2.2.2.2.2.2.1, x.2.2.1.2.2.2.2.2.2.2.1, List.take x.2.2.1.2.2.2.2.2.2.2.2.1.length x.2.2.1.2.2.2.2.2.2.2.2.1, List.take x.2.2.1.2.2.2.2.2.2.2.2.2.1.length x.2.2.1.2.2.2.2.2.2.2.2.2.1, ()), x.2.2.2.1, W (x.2.2.2.2.1 + (1 : Int)), ())))) (T.ite (!(14 : Int) == (0 : Int)) (T.ret (Ex.ret, x.1, false, (List.take x.2.2.1.1.length x.2.2.1.1, List.take x.2.2.1.2.1.length x.2.2.1.2.1, List.take x.2.2.1.2.2.1.length x.2.2.1.2.2.1, x.2.2.1.2.2.2.1, List.take x.2.2.1.2.2.2.2.1.length x.2.2.1.2.2.2.2.1, x.2.2.1.2.2.2.2.2.1, x.2.2.1.2.2.2.2.2.2.1, x.2.2.1.2.2.2.2.2.2.2.1, List.take x.2.2.1.2.2.2.2.2.2.2.2.1.length x.2.2.1.2.2.2.2.2.2.2.2.1, List.take x.2.2.1.2.2.2.2.2.2.2.2.2.1.length x.2.2.1.2.2.2.2.2.2.2.2.2.1, ()), ((x.2.2.2.1.1.1, x.2.2.2.1.1.2.1, x.2.2.2.1.1.2.2.1, W ((↑(List.length y.2.2.2.2.2.2.2.2) : Int).tdiv (8 : Int)), y.2.2.2.2.2.2.2.2, x.2.2.2.1.1.2.2.2.2.2), x.2.2.2.1.2), x.2.2.2.2.1, ())) (T.ite ((↑(List.take x.2.2.1.2.2.2.2.2.2.2.2.1.length x.2.2.1.2.2.2.2.2.2.2.2.1).length : Int) != (↑(List.length x.2.2.2.1.2.1) : Int)) (T.ret (Ex.ret, x.1, false, (List.take x.2.2.1.1.length x.2.2.1.1, List.take x.2.2.1.2.1.length x.2.2.1.2.1, List.take x.2.2.1.2.2.1.length x.2.2.1.2.2.1, x.2.2.1.2.2.2.1, List.take x.2.2.1.2.2.2.2.1.length x.2.2.1.2.2.2.2.1, x.2.2.1.2.2.2.2.2.1, x.2.2.1.2.2.2.2.2.2.1, x.2.2.1.2.2.2.2.2.2.2.1, List.take x.2.2.1.2.2.2.2.2.2.2.2.1.length x.2.2.1.2.2.2.2.2.2.2.2.1, List.take x.2.2.1.2.2.2.2.2.2.2.2.2.1.length x.2.2.1.2.2.2.2.2.2.2.2.2.1, ()), ((x.2.2.2.1.1.1, x.2.2.2.1.1.2.1, x.2.2.2.1.1.2.2.1, W ((↑(List.length y.2.2.2.2.2.2.2.2) : Int).tdiv (8 : Int)), y.2.2.2.2.2.2.2.2, x.2.2.2.1.1.2.2.2.2.2), x.2.2.2.1.2), x.2.2.2.2.1, ())) (T.ret (Ex.normal, x.1, x.2.1, (List.take x.2.2.1.1.length x.2.2.1.1, List.take x.2.2.1.2.1.length x.2.2.1.2.1, List.take x.2.2.1.2.2.1.length x.2.2.1.2.2.1, x.2.2.1.2.2.2.1, List.take x.2.2.1.2.2.2.2.1.length x.2.2.1.2.2.2.2.1, x.2.2.1.2.2.2.2.2.1, x.2.2.1.2.2.2.2.2.2.1, x.2.2.1.2.2.2.2.2.2.2.1, List.take x.2.2.1.2.2.2.2.2.2.2.2.1.length x.2.2.1.2.2.2.2.2.2.2.2.1, List.take x.2.2.1.2.2.2.2.2.2.2.2.2.1.length x.2.2.1.2.2.2.2.2.2.2.2.2.1, ()), ((x.2.2.2.1.1.1, x.2.2.2.1.1.2.1, x.2.2.2.1.1.2.2.1, W ((↑(List.length y.2.2.2.2.2.2.2.2) : Int).tdiv (8 : Int)), y.2.2.2.2.2.2.2.2, x.2.2.2.1.1.2.2.2.2.2), x.2.2.2.1.2), W (x.2.2.2.2.1 + (1 : Int)), ()))))))) (T.ite (decide (x.2.2.1.2.2.2.1 > (0 : Int))) (T.ite ((↑(List.length y.2.2.2.2.2.2.2.2) : Int) == (0 : Int)) (T.ite (!(2 : Int) == (14 : Int)) (T.ret (Ex.ret, x.1, false, (List.take x.2.2.1.1.length x.2.2.1.1, List.take x.2.2.1.2.1.length x.2.2.1.2.1, List.take x.2.2.1.2.2.1.length x.2.2.1.2.2.1, x.2.2.1.2.2.2.1, List.take x.2.2.1.2.2.2.2.1.length x.2.2.1.2.2.2.2.1, x.2.2.1.2.2.2.2.2.1, x.2.2.1.2.2.2.2.2.2.1, x.2.2.1.2.2.2.2.2.2.2.1, List.take x.2.2.1.2.2.2.2.2.2.2.2.1.length x.2.2.1.2.2.2.2.2.2.2.2.1, List.take x.2.2.1.2.2.2.2.2.2.2.2.2.1.length x.2.2.1.2.2.2.2.2.2.2.2.2.1, ()), x.2.2.2.1, x.2.2.2.2.1, ())) (T.ite ((↑(List.take x.2.2.1.2.2.2.2.2.2.2.2.1.length x.2.2.1.2.2.2.2.2.2.2.2.1).length : Int) != (↑(List.length x.2.2.2.1.2.1) : Int)) (T.ret (Ex.ret, x.1, false, (List.take x.2.2.1.1.length x.2.2.1.1, List.take x.2.2.1.2.1.length x.2.2.1.2.1, List.take x.2.2.1.2.2.1.length x.2.2.1.2.2.1, x.2.2.1.2.2.2.1, List.take x.2.2.1.2.2.2.2.1.length x.2.2.1.2.2.2.2.1, x.2.2.1.2.2.2.2.2.1, x.2.2.1.2.2.2.2.2.2.1, x.2.2.1.2.2.2.2.2.2.2.1, List.take x.2.2.1.2.2.2.2.2.2.2.2.1.length x.2.2.1.2.2.2.2.2.2.2.2.1, List.take x.2.2.1.2.2.2.2.2.2.2.2.2.1.length x.2.2.1.2.2.2.2.2.2.2.2.2.1, ()), x.2.2.2.1, x.2.2.2.2.1, ())) (T.ret (Ex.normal, x.1, x.2.1, (List.take x.2.2.1.1.length x.2.2.1.1, List.take x.2.2.1.2.1.length x.2.2.1.2.1, List.take x.2.2.1.2.2.1.length x.2.2.1.2.2.1, x.2.2.1.2.2.2.1, List.take x.2.2.1.2.2.2.2.1.length x.2.2.1.2.2.2.2.1, x.2.2.1.2.2.2.2.2.1, x.2.2.1.2.2.2.2.2.2.1, x.2.2.1.2.2.2.2.2.2.2.1, List.take x.2.2.1.2.2.2.2.2.2.2.2.1.length x.2.2.1.2.2.2.2.2.2.2.2.1, List.take x.2.2.1.2.2.2.2.2.2.2.2.2.1.length x.2.2.1.2.2.2.2.2.2.2.2.2.1, ()), x.2.2.2.1, W (x.2.2.2.2.1 + (1 : Int)), ())))) (T.ite ((↑(List.length y.2.2.2.2.2.2.2.2) : Int).tmod (8 : Int) != (0 : Int) || decide ((↑(List.length y.2.2.2.2.2.2.2.2) : Int) > (128 : Int))) (T.ite (!(2 : Int) == (14 : Int)) (T.ret (Ex.ret, x.1, false, (List.take x.2.2.1.1.length x.2.2.1.1, List.take x.2.2.1.2.1.length x.2.2.1.2.1, List.take x.2.2.1.2.2.1.length x.2.2.1.2.2.1, x.2.2.1.2.2.2.1, List.take x.2.2.1.2.2.2.2.1.length x.2.2.1.2.2.2.2.1, x.2.2.1.2.2.2.2.2.1, x.2.2.1.2.2.2.2.2.2.1, x.2.2.1.2.2.2.2.2.2.2.1, List.take x.2.2.1.2.2.2.2.2.2.2.2.1.length x.2.2.1.2.2.2.2.2.2.2.2.1, List.take x.2.2.1.2.2.2.2.2.2.2.2.2.1.length x.2.2.1.2.2.2.2.2.2.2.2.2.1, ()), x.2.2.2.1, x.2.2.2.2.1, ())) (T.ite ((↑(List.take x.2.2.1.2.2.2.2.2.2.2.2.1.length x.2.2.1.2.2.2.2.2.2.2.2.1).length : Int) != (↑(List.length x.2.2.2.1.2.1) : Int)) (T.ret (Ex.ret, x.1, false, (List.take x.2.2.1.1.length x.2.2.1.1, List.take x.2.2.1.2.1.length x.2.2.1.2.1, List.take x.2.2.1.2.2.1.length x.2.2.1.2.2.1, x.2.2.1.2.2.2.1, List.take x.2.2.1.2.2.2.2.1.length x.2.2.1.2.2.2.2.1, x.2.2.1.2.2.2.2.2.1, x.2.2.1.2.2.2.2.2.2.1, x.2.2.1.2.2.2.2.2.2.2.1, List.take x.2.2.1.2.2.2.2.2.2.2.2.1.length x.2.2.1.2.2.2.2.2.2.2.2.1, List.take x.2.2.1.2.2.2.2.2.2.2.2.2.1.length x.2.2.1.2.2.2.2.2.2.2.2.2.1, ()), x.2.2.2.1, x.2.2.2.2.1, ())) (T.ret (Ex.normal, x.1, x.2.1, (List.take x.2.2.1.1.length x.2.2.1.1, List.take x.2.2.1.2.1.length x.2.2.1.2.1, List.take x.2.2.1.2.2.1.length x.2.2.1.2.2.1, x.2.2.1.2.2.2.1, List.take x.2.2.1.2.2.2.2.1.length x.2.2.1.2.2.2.2.1, x.2.2.1.2.2.2.2.2.1, x.2.2.1.2.2.2.2.2.2.1, x.2.2.1.2.2.2.2.2.2.2.1, List.take x.2.2.1.2.2.2.2.2.2.2.2.1.length x.2.2.1.2.2.2.2.2.2.2.2.1, List.take x.2.2.1.2.2.2.2.2.2.2.2.2.1.length x.2.2.1.2.2.2.2.2.2.2.2.2.1, ()), x.2.2.2.1, W (x.2.2.2.2.1 + (1 : Int)), ())))) (T.ite (decide (x.2.2.2.1.1.2.2.2.1 > (0 : Int))) (T.ite (!(2 : Int) == (2 : Int)) (T.ret (Ex.ret, x.1, false, (List.take x.2.2.1.1.length x.2.2.1.1, List.take x.2.2.1.2.1.length x.2.2.1.2.1, List.take x.2.2.1.2.2.1.length x.2.2.1.2.2.1, x.2.2.1.2.2.2.1, List.take x.2.2.1.2.2.2.2.1.length x.2.2.1.2.2.2.2.1, x.2.2.1.2.2.2.2.2.1, x.2.2.1.2.2.2.2.2.2.1, x.2.2.1.2.2.2.2.2.2.2.1, List.take x.2.2.1.2.2.2.2.2.2.2.2.1.length x.2.2.1.2.2.2.2.2.2.2.2.1, List.take x.2.2.1.2.2.2.2.2.2.2.2.2.1.length x.2.2.1.2.2.2.2.2.2.2.2.2.1, ()), x.2.2.2.1, x.2.2.2.2.1, ())) (T.ite ((↑(List.take x.2.2.1.2.2.2.2.2.2.2.2.1.length x.2.2.1.2.2.2.2.2.2.2.2.1).length : Int) != (↑(List.length x.2.2.2.1.2.1) : Int)) (T.ret (Ex.ret, x.1, false, (List.take x.2.2.1.1.length x.2.2.1.1, List.take x.2.2.1.2.1.length x.2.2.1.2.1, List.take x.2.2.1.2.2.1.length x.2.2.1.2.2.1, x.2.2.1.2.2.2.1, List.take x.2.2.1.2.2.2.2.1.length x.2.2.1.2.2.2.2.1, x.2.2.1.2.2.2.2.2.1, x.2.2.1.2.2.2.2.2.2.1, x.2.2.1.2.2.2.2.2.2.2.1, List.take x.2.2.1.2.2.2.2.2.2.2.2.1.length x.2.2.1.2.2.2.2.2.2.2.2.1, List.take x.2.2.1.2.2.2.2.2.2.2.2.2.1.length x.2.2.1.2.2.2.2.2.2.2.2.2.1, ()), x.2.2.2.1, x.2.2.2.2.1, ())) (T.ret (Ex.normal, x.1, x.2.1, (List.take x.2.2.1.1.length x.2.2.1.1, List.take x.2.2.1.2.1.length x.2.2.1.2.1, List.take x.2.2.1.2.2.1.length x.2.2.1.2.2.1, x.2.2.1.2.2.2.1, List.take x.2.2.1.2.2.2.2.1.length x.2.2.1.2.2.2.2.1, x.2.2.1.2.2.2.2.2.1, x.2.2.1.2.2.2.2.2.2.1, x.2.2.1.2.2.2.2.2.2.2.1, List.take x.2.2.1.2.2.2.2.2.2.2.2.1.length x.2.2.1.2.2.2.2.2.2.2.2.1, List.take x.2.2.1.2.2.2.2.2.2.2.2.2.1.length x.2.2.1.2.2.2.2.2.2.2.2.2.1, ()), x.2.2.2.1, W (x.2.2.2.2.1 + (1 : Int)), ())))) (T.ite (!(2 : Int) == (0 : Int)) (T.ret (Ex.ret, x.1, false, (List.take x.2.2.1.1.length x.2.2.1.1, List.take x.2.2.1.2.1.length x.2.2.1.2.1, List.take x.2.2.1.2.2.1.length x.2.2.1.2.2.1, x.2.2.1.2.2.2.1, List.take x.2.2.1.2.2.2.2.1.length x.2.2.1.2.2.2.2.1, x.2.2.1.2.2.2.2.2.1, x.2.2.1.2.2.2.2.2.2.1, x.2.2.1.2.2.2.2.2.2.2.1, List.take x.2.2.1.2.2.2.2.2.2.2.2.1.length x.2.2.1.2.2.2.2.2.2.2.2.1, List.take x.2.2.1.2.2.2.2.2.2.2.2.2.1.length x.2.2.1.2.2.2.2.2.2.2.2.2.1, ()), ((x.2.2.2.1.1.1, x.2.2.2.1.1.2.1, x.2.2.2.1.1.2.2.1, W ((↑(List.length y.2.2.2.2.2.2.2.2) : Int).tdiv (8 : Int)), y.2.2.2.2.2.2.2.2, x.2.2.2.1.1.2.2.2.2.2), x.2.2.2.1.2), x.2.2.2.2.1, ())) (T.ite ((↑(List.take x.2.2.1.2.2.2.2.2.2.2.2.1.length x.2.2.1.2.2.2.2.2.2.2.2.1).length : Int) != (↑(List.length x.2.2.2.1.2.1) : Int)) (T.ret (Ex.ret, x.1, false, (List.take x.2.2.1.1.length x.2.2.1.1, List.take x.2.2.1.2.1.length x.2.2.1.2.1, List.take x.2.2.1.2.2.1.length x.2.2.1.2.2.1, x.2.2.1.2.2.2.1, List.take x.2.2.1.2.2.2.2.1.length x.2.2.1.2.2.2.2.1, x.2.2.1.2.2.2.2.2.1, x.2.2.1.2.2.2.2.2.2.1, x.2.2.1.2.2.2.2.2.2.2.1, List.take x.2.2.1.2.2.2.2.2.2.2.2.1.length x.2.2.1.2.2.2.2.2.2.2.2.1, List.take x.2.2.1.2.2.2.2.2.2.2.2.2.1.length x.2.2.1.2.2.2.2.2.2.2.2.2.1, ()), ((x.2.2.2.1.1.1, x.2.2.2.1.1.2.1, x.2.2.2.1.1.2.2.1, W ((↑(List.length y.2.2.2.2.2.2.2.2) : Int).tdiv (8 : Int)), y.2.2.2.2.2.2.2.2, x.2.2.2.1.1.2.2.2.2.2), x.2.2.2.1.2), x.2.2.2.2.1, ())) (T.ret (Ex.normal, x.1, x.2.1, (List.take x.2.2.1.1.length x.2.2.1.1, List.take x.2.2.1.2.1.length x.2.2.1.2.1, List.take x.2.2.1.2.2.1.length x.2.2.1.2.2.1, x.2.2.1.2.2.2.1, List.take x.2.2.1.2.2.2.2.1.length x.2.2.1.2.2.2.2.1, x.2.2.1.2.2.2.2.2.1, x.2.2.1.2.2.2.2.2.2.1, x.2.2.1.2.2.2.2.2.2.2.1, List.take x.2.2.1.2.2.2.2.2.2.2.2.1.length x.2.2.1.2.2.2.2.2.2.2.2.1, List.take x.2.2.1.2.2.2.2.2.2.2.2.2.1.length x.2.2.1.2.2.2.2.2.2.2.2.2.1, ()), ((x.2.2.2.1.1.1, x.2.2.2.1.1.2.1, x.2.2.2.1.1.2.2.1, W ((↑(List.length y.2.2.2.2.2.2.2.2) : Int).tdiv (8 : Int)), y.2.2.2.2.2.2.2.2, x.2.2.2.1.1.2.2.2.2.2), x.2.2.2.1.2), W (x.2.2.2.2.1 + (1 : Int)), ()))))))) (T.ite (decide (List.length y.2.2.2.2.2.2.2.2 * nat_lit 24 ≤ most)) (T.ite ((↑(List.length y.2.2.2.2.2.2.2.2) : Int) == (0 : Int)) (T.ite (!(0 : Int) == (14 : Int)) (T.ret (Ex.ret, x.1, false, (List.take x.2.2.1.1.length x.2.2.1.1, List.take x.2.2.1.2.1.length x.2.2.1.2.1, List.take x.2.2.1.2.2.1.length x.2.2.1.2.2.1, W ((↑(List.length y.2.2.2.2.2.2.2.2) : Int).tdiv (8 : Int)), List.take (List.length y.2.2.2.2.2.2.2.2) y.2.2.2.2.2.2.2.2, x.2.2.1.2.2.2.2.2.1, x.2.2.1.2.2.2.2.2.2.1, x.2.2.1.2.2.2.2.2.2.2.1, List.take x.2.2.1.2.2.2.2.2.2.2.2.1.length x.2.2.1.2.2.2.2.2.2.2.2.1, List.take x.2.2.1.2.2.2.2.2.2.2.2.2.1.length x.2.2.1.2.2.2.2.2.2.2.2.2.1, ()), x.2.2.2.1, x.2.2.2.2.1, ())) (T.ite ((↑(List.take x.2.2.1.2.2.2.2.2.2.2.2.1.length x.2.2.1.2.2.2.2.2.2.2.2.1).length : Int) != (↑(List.length x.2.2.2.1.2.1) : Int)) (T.ret (Ex.ret, x.1, false, (List.take x.2.2.1.1.length x.2.2.1.1, List.take x.2.2.1.2.1.length x.2.2.1.2.1, List.take x.2.2.1.2.2.1.length x.2.2.1.2.2.1, W ((↑(List.length y.2.2.2.2.2.2.2.2) : Int).tdiv (8 : Int)), List.take (List.length y.2.2.2.2.2.2.2.2) y.2.2.2.2.2.2.2.2, x.2.2.1.2.2.2.2.2.1, x.2.2.1.2.2.2.2.2.2.1, x.2.2.1.2.2.2.2.2.2.2.1, List.take x.2.2.1.2.2.2.2.2.2.2.2.1.length x.2.2.1.2.2.2.2.2.2.2.2.1, List.take x.2.2.1.2.2.2.2.2.2.2.2.2.1.length x.2.2.1.2.2.2.2.2.2.2.2.2.1, ()), x.2.2.2.1, x.2.2.2.2.1, ())) (T.ret (Ex.normal, x.1, x.2.1, (List.take x.2.2.1.1.length x.2.2.1.1, List.take x.2.2.1.2.1.length x.2.2.1.2.1, List.take x.2.2.1.2.2.1.length x.2.2.1.2.2.1, W ((↑(List.length y.2.2.2.2.2.2.2.2) : Int).tdiv (8 : Int)), List.take (List.length y.2.2.2.2.2.2.2.2) y.2.2.2.2.2.2.2.2, x.2.2.1.2.2.2.2.2.1, x.2.2.1.2.2.2.2.2.2.1, x.2.2.1.2.2.2.2.2.2.2.1, List.take x.2.2.1.2.2.2.2.2.2.2.2.1.length x.2.2.1.2.2.2.2.2.2.2.2.1, List.take x.2.2.1.2.2.2.2.2.2.2.2.2.1.length x.2.2.1.2.2.2.2.2.2.2.2.2.1, ()), x.2.2.2.1, W (x.2.2.2.2.1 + (1 : Int)), ())))) (T.ite ((↑(List.length y.2.2.2.2.2.2.2.2) : Int).tmod (8 : Int) != (0 : Int) || decide ((↑(List.length y.2.2.2.2.2.2.2.2) : Int) > (128 : Int))) (T.ite (!(0 : Int) == (14 : Int)) (T.ret (Ex.ret, x.1, false, (List.take x.2.2.1.1.length x.2.2.1.1, List.take x.2.2.1.2.1.length x.2.2.1.2.1, List.take x.2.2.1.2.2.1.length x.2.2.1.2.2.1, W ((↑(List.length y.2.2.2.2.2.2.2.2) : Int).tdiv (8 : Int)), List.take (List.length y.2.2.2.2.2.2.2.2) y.2.2.2.2.2.2.2.2, x.2.2.1.2.2.2.2.2.1, x.2.2.1.2.2.2.2.2.2.1, x.2.2.1.2.2.2.2.2.2.2.1, List.take x.2.2.1.2.2.2.2.2.2.2.2.1.length x.2.2.1.2.2.2.2.2.2.2.2.1, List.take x.2.2.1.2.2.2.2.2.2.2.2.2.1.length x.2.2.1.2.2.2.2.2.2.2.2.2.1, ()), x.2.2.2.1, x.2.2.2.2.1, ())) (T.ite ((↑(List.take x.2.2.1.2.2.2.2.2.2.2.2.1.length x.2.2.1.2.2.2.2.2.2.2.2.1).length : Int) != (↑(List.length x.2.2.2.1.2.1) : Int)) (T.ret (Ex.ret, x.1, false, (List.take x.2.2.1.1.length x.2.2.1.1, List.take x.2.2.1.2.1.length x.2.2.1.2.1, List.take x.2.2.1.2.2.1.length x.2.2.1.2.2.1, W ((↑(List.length y.2.2.2.2.2.2.2.2) : Int).tdiv (8 : Int)), List.take (List.length y.2.2.2.2.2.2.2.2) y.2.2.2.2.2.2.2.2, x.2.2.1.2.2.2.2.2.1, x.2.2.1.2.2.2.2.2.2.1, x.2.2.1.2.2.2.2.2.2.2.1, List.take x.2.2.1.2.2.2.2.2.2.2.2.1.length x.2.2.1.2.2.2.2.2.2.2.2.1, List.take x.2.2.1.2.2.2.2.2.2.2.2.2.1.length x.2.2.1.2.2.2.2.2.2.2.2.2.1, ()), x.2.2.2.1, x.2.2.2.2.1, ())) (T.ret (Ex.normal, x.1, x.2.1, (List.take x.2.2.1.1.length x.2.2.1.1, List.take x.2.2.1.2.1.length x.2.2.1.2.1, List.take x.2.2.1.2.2.1.length x.2.2.1.2.2.1, W ((↑(List.length y.2.2.2.2.2.2.2.2) : Int).tdiv (8 : Int)), List.take (List.length y.2.2.2.2.2.2.2.2) y.2.2.2.2.2.2.2.2, x.2.2.1.2.2.2.2.2.1, x.2.2.1.2.2.2.2.2.2.1, x.2.2.1.2.2.2.2.2.2.2.1, List.take x.2.2.1.2.2.2.2.2.2.2.2.1.length x.2.2.1.2.2.2.2.2.2.2.2.1, List.take x.2.2.1.2.2.2.2.2.2.2.2.2.1.length x.2.2.1.2.2.2.2.2.2.2.2.2.1, ()), x.2.2.2.1, W (x.2.2.2.2.1 + (1 : Int)), ())))) (T.ite (decide (x.2.2.2.1.1.2.2.2.1 > (0 : Int))) (T.ite (!(0 : Int) == (2 : Int)) (T.ret (Ex.ret, x.1, false, (List.take x.2.2.1.1.length x.2.2.1.1, List.take x.2.2.1.2.1.length x.2.2.1.2.1, List.take x.2.2.1.2.2.1.length x.2.2.1.2.2.1, W ((↑(List.length y.2.2.2.2.2.2.2.2) : Int).tdiv (8 : Int)), List.take (List.length y.2.2.2.2.2.2.2.2) y.2.2.2.2.2.2.2.2, x.2.2.1.2.2.2.2.2.1, x.2.2.1.2.2.2.2.2.2.1, x.2.2.1.2.2.2.2.2.2.2.1, List.take x.2.2.1.2.2.2.2.2.2.2.2.1.length x.2.2.1.2.2.2.2.2.2.2.2.1, List.take x.2.2.1.2.2.2.2.2.2.2.2.2.1.length x.2.2.1.2.2.2.2.2.2.2.2.2.1, ()), x.2.2.2.1, x.2.2.2.2.1, ())) (T.ite ((↑(List.take x.2.2.1.2.2.2.2.2.2.2.2.1.length x.2.2.1.2.2.2.2.2.2.2.2.1).length : Int) != (↑(List.length x.2.2.2.1.2.1) : Int)) (T.ret (Ex.ret, x.1, false, (List.take x.2.2.1.1.length x.2.2.1.1, List.take x.2.2.1.2.1.length x.2.2.1.2.1, List.take x.2.2.1.2.2.1.length x.2.2.1.2.2.1, W ((↑(List.length y.2.2.2.2.2.2.2.2) : Int).tdiv (8 : Int)), List.take (List.length y.2.2.2.2.2.2.2.2) y.2.2.2.2.2.2.2.2, x.2.2.1.2.2.2.2.2.1, x.2.2.1.2.2.2.2.2.2.1, x.2.2.1.2.2.2.2.2.2.2.1, List.take x.2.2.1.2.2.2.2.2.2.2.2.1.length x.2.2.1.2.2.2.2.2.2.2.2.1, List.take x.2.2.1.2.2.2.2.2.2.2.2.2.1.length x.2.2.1.2.2.2.2.2.2.2.2.2.1, ()), x.2.2.2.1, x.2.2.2.2.1, ())) (T.ret (Ex.normal, x.1, x.2.1, (List.take x.2.2.1.1.length x.2.2.1.1, List.take x.2.2.1.2.1.length x.2.2.1.2.1, List.take x.2.2.1.2.2.1.length x.2.2.1.2.2.1, W ((↑(List.length y.2.2.2.2.2.2.2.2) : Int).tdiv (8 : Int)), List.take (List.length y.2.2.2.2.2.2.2.2) y.2.2.2.2.2.2.2.2, x.2.2.1.2.2.2.2.2.1, x.2.2.1.2.2.2.2.2.2.1, x.2.2.1.2.2.2.2.2.2.2.1, List.take x.2.2.1.2.2.2.2.2.2.2.2.1.length x.2.2.1.2.2.2.2.2.2.2.2.1, List.take x.2.2.1.2.2.2.2.2.2.2.2.2.1.length x.2.2.1.2.2.2.2.2.2.2.2.2.1, ()), x.2.2.2.1, W (x.2.2.2.2.1 + (1 : Int)), ())))) (T.ite (!(0 : Int) == (0 : Int)) (T.ret (Ex.ret, x.1, false, (List.take x.2.2.1.1.length x.2.2.1.1, List.take x.2.2.1.2.1.length x.2.2.1.2.1, List.take x.2.2.1.2.2.1.length x.2.2.1.2.2.1, W ((↑(List.length y.2.2.2.2.2.2.2.2) : Int).tdiv (8 : Int)), List.take (List.length y.2.2.2.2.2.2.2.2) y.2.2.2.2.2.2.2.2, x.2.2.1.2.2.2.2.2.1, x.2.2.1.2.2.2.2.2.2.1, x.2.2.1.2.2.2.2.2.2.2.1, List.take x.2.2.1.2.2.2.2.2.2.2.2.1.length x.2.2.1.2.2.2.2.2.2.2.2.1, List.take x.2.2.1.2.2.2.2.2.2.2.2.2.1.length x.2.2.1.2.2.2.2.2.2.2.2.2.1, ()), ((x.2.2.2.1.1.1, x.2.2.2.1.1.2.1, x.2.2.2.1.1.2.2.1, W ((↑(List.length y.2.2.2.2.2.2.2.2) : Int).tdiv (8 : Int)), y.2.2.2.2.2.2.2.2, x.2.2.2.1.1.2.2.2.2.2), x.2.2.2.1.2), x.2.2.2.2.1, ())) (T.ite ((↑(List.take x.2.2.1.2.2.2.2.2.2.2.2.1.length x.2.2.1.2.2.2.2.2.2.2.2.1).length : Int) != (↑(List.length x.2.2.2.1.2.1) : Int)) (T.ret (Ex.ret, x.1, false, (List.take x.2.2.1.1.length x.2.2.1.1, List.take x.2.2.1.2.1.length x.2.2.1.2.1, List.take x.2.2.1.2.2.1.length x.2.2.1.2.2.1, W ((↑(List.length y.2.2.2.2.2.2.2.2) : Int).tdiv (8 : Int)), List.take (List.length y.2.2.2.2.2.2.2.2) y.2.2.2.2.2.2.2.2, x.2.2.1.2.2.2.2.2.1, x.2.2.1.2.2.2.2.2.2.1, x.2.2.1.2.2.2.2.2.2.2.1, List.take x.2.2.1.2.2.2.2.2.2.2.2.1.length x.2.2.1.2.2.2.2.2.2.2.2.1, List.take x.2.2.1.2.2.2.2.2.2.2.2.2.1.length x.2.2.1.2.2.2.2.2.2.2.2.2.1, ()), ((x.2.2.2.1.1.1, x.2.2.2.1.1.2.1, x.2.2.2.1.1.2.2.1, W ((↑(List.length y.2.2.2.2.2.2.2.2) : Int).tdiv (8 : Int)), y.2.2.2.2.2.2.2.2, x.2.2.2.1.1.2.2.2.2.2), x.2.2.2.1.2), x.2.2.2.2.1, ())) (T.ret (Ex.normal, x.1, x.2.1, (List.take x.2.2.1.1.length x.2.2.1.1, List.take x.2.2.1.2.1.length x.2.2.1.2.1, List.take x.2.2.1.2.2.1.length x.2.2.1.2.2.1, W ((↑(List.length y.2.2.2.2.2.2.2.2) : Int).tdiv (8 : Int)), List.take (List.length y.2.2.2.2.2.2.2.2) y.2.2.2.2.2.2.2.2, x.2.2.1.2.2.2.2.2.1, x.2.2.1.2.2.2.2.2.2.1, x.2.2.1.2.2.2.2.2.2.2.1, List.take x.2.2.1.2.2.2.2.2.2.2.2.1.length x.2.2.1.2.2.2.2.2.2.2.2.1, List.take x.2.2.1.2.2.2.2.2.2.2.2.2.1.length x.2.2.1.2.2.2.2.2.2.2.2.2.1, ()), ((x.2.2.2.1.1.1, x.2.2.2.1.1.2.1, x.2.2.2.1.1.2.2.1, W ((↑(List.length y.2.2.2.2.2.2.2.2) : Int).tdiv (8 : Int)), y.2.2.2.2.2.2.2.2, x.2.2.2.1.1.2.2.2.2.2), x.2.2.2.1.2), W (x.2.2.2.2.1 + (1 : Int)), ()))))))) T.fail)))) (T.ite (decide (y.2.1 < (1 : Int)) || decide (y.2.1 > (3 : Int)) || decide (y.2.2.1 < (0 : Int))) (T.opt (law47_Made_put (x.2.2.2.1, y)) fun y => T.ite (!((0 : Int) == y.2.1 && (2 : Int) == y.2.2)) (T.ret (Ex.ret, x.1, false, (List.take x.2.2.1.1.length x.2.2.1.1, List.take x.2.2.1.2.1.length x.2.2.1.2.1, List.take x.2.2.1.2.2.1.length x.2.2.1.2.2.1, x.2.2.1.2.2.2.1, List.take x.2.2.1.2.2.2.2.1.length x.2.2.1.2.2.2.2.1, x.2.2.1.2.2.2.2.2.1, x.2.2.1.2.2.2.2.2.2.1, x.2.2.1.2.2.2.2.2.2.2.1, List.take x.2.2.1.2.2.2.2.2.2.2.2.1.length x.2.2.1.2.2.2.2.2.2.2.2.1, List.take x.2.2.1.2.2.2.2.2.2.2.2.2.1.length x.2.2.1.2.2.2.2.2.2.2.2.2.1, ()), y.1, x.2.2.2.2.1, ())) (T.ite ((↑(List.take x.2.2.1.2.2.2.2.2.2.2.2.1.length x.2.2.1.2.2.2.2.2.2.2.2.1).length : Int) != (↑(List.length y.1.2.1) : Int)) (T.ret (Ex.ret, x.1, false, (List.take x.2.2.1.1.length x.2.2.1.1, List.take x.2.2.1.2.1.length x.2.2.1.2.1, List.take x.2.2.1.2.2.1.length x.2.2.1.2.2.1, x.2.2.1.2.2.2.1, List.take x.2.2.1.2.2.2.2.1.length x.2.2.1.2.2.2.2.1, x.2.2.1.2.2.2.2.2.1, x.2.2.1.2.2.2.2.2.2.1, x.2.2.1.2.2.2.2.2.2.2.1, List.take x.2.2.1.2.2.2.2.2.2.2.2.1.length x.2.2.1.2.2.2.2.2.2.2.2.1, List.take x.2.2.1.2.2.2.2.2.2.2.2.2.1.length x.2.2.1.2.2.2.2.2.2.2.2.2.1, ()), y.1, x.2.2.2.2.1, ())) (T.ret (Ex.normal, x.1, x.2.1, (List.take x.2.2.1.1.length x.2.2.1.1, List.take x.2.2.1.2.1.length x.2.2.1.2.1, List.take x.2.2.1.2.2.1.length x.2.2.1.2.2.1, x.2.2.1.2.2.2.1, List.take x.2.2.1.2.2.2.2.1.length x.2.2.1.2.2.2.2.1, x.2.2.1.2.2.2.2.2.1, x.2.2.1.2.2.2.2.2.2.1, x.2.2.1.2.2.2.2.2.2.2.1, List.take x.2.2.1.2.2.2.2.2.2.2.2.1.length x.2.2.1.2.2.2.2.2.2.2.2.1, List.take x.2.2.1.2.2.2.2.2.2.2.2.2.1.length x.2.2.1.2.2.2.2.2.2.2.2.2.1, ()), y.1, W (x.2.2.2.2.1 + (1 : Int)), ())))) (T.ite (decide (y.2.2.1 ≥ (↑x.2.2.1.1.length : Int))) (T.opt (law47_Made_put (x.2.2.2.1, y)) fun y => T.ite (!((0 : Int) == y.2.1 && (2 : Int) == y.2.2)) (T.ret (Ex.ret, x.1, false, (List.take x.2.2.1.1.length x.2.2.1.1, List.take x.2.2.1.2.1.length x.2.2.1.2.1, List.take x.2.2.1.2.2.1.length x.2.2.1.2.2.1, x.2.2.1.2.2.2.1, List.take x.2.2.1.2.2.2.2.1.length x.2.2.1.2.2.2.2.1, x.2.2.1.2.2.2.2.2.1, x.2.2.1.2.2.2.2.2.2.1, x.2.2.1.2.2.2.2.2.2.2.1, List.take x.2.2.1.2.2.2.2.2.2.2.2.1.length x.2.2.1.2.2.2.2.2.2.2.2.1, List.take x.2.2.1.2.2.2.2.2.2.2.2.2.1.length x.2.2.1.2.2.2.2.2.2.2.2.2.1, ()), y.1, x.2.2.2.2.1, ())) (T.ite ((↑(List.take x.2.2.1.2.2.2.2.2.2.2.2.1.length x.2.2.1.2.2.2.2.2.2.2.2.1).length : Int) != (↑(List.length y.1.2.1) : Int)) (T.ret (Ex.ret, x.1, false, (List.take x.2.2.1.1.length x.2.2.1.1, List.take x.2.2.1.2.1.length x.2.2.1.2.1, List.take x.2.2.1.2.2.1.length x.2.2.1.2.2.1, x.2.2.1.2.2.2.1, List.take x.2.2.1.2.2.2.2.1.length x.2.2.1.2.2.2.2.1, x.2.2.1.2.2.2.2.2.1, x.2.2.1.2.2.2.2.2.2.1, x.2.2.1.2.2.2.2.2.2.2.1, List.take x.2.2.1.2.2.2.2.2.2.2.2.1.length x.2.2.1.2.2.2.2.2.2.2.2.1, List.take x.2.2.1.2.2.2.2.2.2.2.2.2.1.length x.2.2.1.2.2.2.2.2.2.2.2.2.1, ()), y.1, x.2.2.2.2.1, ())) (T.ret (Ex.normal, x.1, x.2.1, (List.take x.2.2.1.1.length x.2.2.1.1, List.take x.2.2.1.2.1.length x.2.2.1.2.1, List.take x.2.2.1.2.2.1.length x.2.2.1.2.2.1, x.2.2.1.2.2.2.1, List.take x.2.2.1.2.2.2.2.1.length x.2.2.1.2.2.2.2.1, x.2.2.1.2.2.2.2.2.1, x.2.2.1.2.2.2.2.2.2.1, x.2.2.1.2.2.2.2.2.2.2.1, List.take x.2.2.1.2.2.2.2.2.2.2.2.1.length x.2.2.1.2.2.2.2.2.2.2.2.1, List.take x.2.2.1.2.2.2.2.2.2.2.2.2.1.length x.2.2.1.2.2.2.2.2.2.2.2.2.1, ()), y.1, W (x.2.2.2.2.1 + (1 : Int)), ())))) (T.opt (build_shape (y.2.1, y.2.2.2.2.1)) fun y_1 => T.ite (y_1.snd == (0 : Int)) (T.opt (xform_Mesh (y.2.2.2.2.2.2.1, y_1.fst)) fun y_2 => T.ite (y_2.snd != (0 : Int)) (T.opt (law47_Made_put (x.2.2.2.1, y)) fun y => T.ite (!((0 : Int) == y.2.1 && y_2.snd == y.2.2)) (T.ret (Ex.ret, x.1, false, (List.take x.2.2.1.1.length x.2.2.1.1, List.take x.2.2.1.2.1.length x.2.2.1.2.1, List.take x.2.2.1.2.2.1.length x.2.2.1.2.2.1, x.2.2.1.2.2.2.1, List.take x.2.2.1.2.2.2.2.1.length x.2.2.1.2.2.2.2.1, x.2.2.1.2.2.2.2.2.1, x.2.2.1.2.2.2.2.2.2.1, x.2.2.1.2.2.2.2.2.2.2.1, List.take x.2.2.1.2.2.2.2.2.2.2.2.1.length x.2.2.1.2.2.2.2.2.2.2.2.1, List.take x.2.2.1.2.2.2.2.2.2.2.2.2.1.length x.2.2.1.2.2.2.2.2.2.2.2.2.1, ()), y.1, x.2.2.2.2.1, ())) (T.ite ((↑(List.take x.2.2.1.2.2.2.2.2.2.2.2.1.length x.2.2.1.2.2.2.2.2.2.2.2.1).length : Int) != (↑(List.length y.1.2.1) : Int)) (T.ret (Ex.ret, x.1, false, (List.take x.2.2.1.1.length x.2.2.1.1, List.take x.2.2.1.2.1.length x.2.2.1.2.1, List.take x.2.2.1.2.2.1.length x.2.2.1.2.2.1, x.2.2.1.2.2.2.1, List.take x.2.2.1.2.2.2.2.1.length x.2.2.1.2.2.2.2.1, x.2.2.1.2.2.2.2.2.1, x.2.2.1.2.2.2.2.2.2.1, x.2.2.1.2.2.2.2.2.2.2.1, List.take x.2.2.1.2.2.2.2.2.2.2.2.1.length x.2.2.1.2.2.2.2.2.2.2.2.1, List.take x.2.2.1.2.2.2.2.2.2.2.2.2.1.length x.2.2.1.2.2.2.2.2.2.2.2.2.1, ()), y.1, x.2.2.2.2.1, ())) (T.ret (Ex.normal, x.1, x.2.1, (List.take x.2.2.1.1.length x.2.2.1.1, List.take x.2.2.1.2.1.length x.2.2.1.2.1, List.take x.2.2.1.2.2.1.length x.2.2.1.2.2.1, x.2.2.1.2.2.2.1, List.take x.2.2.1.2.2.2.2.1.length x.2.2.1.2.2.2.2.1, x.2.2.1.2.2.2.2.2.1, x.2.2.1.2.2.2.2.2.2.1, x.2.2.1.2.2.2.2.2.2.2.1, List.take x.2.2.1.2.2.2.2.2.2.2.2.1.length x.2.2.1.2.2.2.2.2.2.2.2.1, List.take x.2.2.1.2.2.2.2.2.2.2.2.2.1.length x.2.2.1.2.2.2.2.2.2.2.2.2.1, ()), y.1, W (x.2.2.2.2.1 + (1 : Int)), ())))) (T.ite (decide (W ((↑x.2.2.1.2.1.length : Int) + (↑(List.length y_2.fst.snd) : Int)) > (512 : Int))) (T.opt (law47_Made_put (x.2.2.2.1, y)) fun y => T.ite (!((0 : Int) == y.2.1 && (4 : Int) == y.2.2)) (T.ret (Ex.ret, x.1, false, (List.take x.2.2.1.1.length x.2.2.1.1, List.take x.2.2.1.2.1.length x.2.2.1.2.1, List.take x.2.2.1.2.2.1.length x.2.2.1.2.2.1, x.2.2.1.2.2.2.1, List.take x.2.2.1.2.2.2.2.1.length x.2.2.1.2.2.2.2.1, x.2.2.1.2.2.2.2.2.1, x.2.2.1.2.2.2.2.2.2.1, x.2.2.1.2.2.2.2.2.2.2.1, List.take x.2.2.1.2.2.2.2.2.2.2.2.1.length x.2.2.1.2.2.2.2.2.2.2.2.1, List.take x.2.2.1.2.2.2.2.2.2.2.2.2.1.length x.2.2.1.2.2.2.2.2.2.2.2.2.1, ()), y.1, x.2.2.2.2.1, ())) (T.ite ((↑(List.take x.2.2.1.2.2.2.2.2.2.2.2.1.length x.2.2.1.2.2.2.2.2.2.2.2.1).length : Int) != (↑(List.length y.1.2.1) : Int)) (T.ret (Ex.ret, x.1, false, (List.take x.2.2.1.1.length x.2.2.1.1, List.take x.2.2.1.2.1.length x.2.2.1.2.1, List.take x.2.2.1.2.2.1.length x.2.2.1.2.2.1, x.2.2.1.2.2.2.1, List.take x.2.2.1.2.2.2.2.1.length x.2.2.1.2.2.2.2.1, x.2.2.1.2.2.2.2.2.1, x.2.2.1.2.2.2.2.2.2.1, x.2.2.1.2.2.2.2.2.2.2.1, List.take x.2.2.1.2.2.2.2.2.2.2.2.1.length x.2.2.1.2.2.2.2.2.2.2.2.1, List.take x.2.2.1.2.2.2.2.2.2.2.2.2.1.length x.2.2.1.2.2.2.2.2.2.2.2.2.1, ()), y.1, x.2.2.2.2.1, ())) (T.ret (Ex.normal, x.1, x.2.1, (List.take x.2.2.1.1.length x.2.2.1.1, List.take x.2.2.1.2.1.length x.2.2.1.2.1, List.take x.2.2.1.2.2.1.length x.2.2.1.2.2.1, x.2.2.1.2.2.2.1, List.take x.2.2.1.2.2.2.2.1.length x.2.2.1.2.2.2.2.1, x.2.2.1.2.2.2.2.2.1, x.2.2.1.2.2.2.2.2.2.1, x.2.2.1.2.2.2.2.2.2.2.1, List.take x.2.2.1.2.2.2.2.2.2.2.2.1.length x.2.2.1.2.2.2.2.2.2.2.2.1, List.take x.2.2.1.2.2.2.2.2.2.2.2.2.1.length x.2.2.1.2.2.2.2.2.2.2.2.2.1, ()), y.1, W (x.2.2.2.2.1 + (1 : Int)), ())))) (T.opt (mesh_Tris (y_2.fst, y.2.2.1)) fun y_3 => T.ite (decide ((x.2.2.1.2.1.length + List.length y_3.fst) * nat_lit 80 ≤ most)) (T.ite (decide ((x.2.2.1.2.2.2.2.2.2.2.2.1.length + (1 : Nat)) * nat_lit 8 ≤ most)) (T.ite (decide ((x.2.2.1.2.2.2.2.2.2.2.2.2.1.length + (1 : Nat)) * nat_lit 1 ≤ most)) (T.opt (law47_Made_put (x.2.2.2.1, y)) fun y => T.ite (!(W ((↑(x.2.2.1.2.2.2.2.2.2.2.2.1.length + (1 : Nat)) : Int) - (1 : Int)) == y.2.1 && (0 : Int) == y.2.2)) (T.ret (Ex.ret, x.1, false, (List.take x.2.2.1.1.length x.2.2.1.1, List.take (x.2.2.1.2.1.length + List.length y_3.fst) (List.take x.2.2.1.2.1.length x.2.2.1.2.1 ++ y_3.fst), List.take x.2.2.1.2.2.1.length x.2.2.1.2.2.1, x.2.2.1.2.2.2.1, List.take x.2.2.1.2.2.2.2.1.length x.2.2.1.2.2.2.2.1, x.2.2.1.2.2.2.2.2.1, x.2.2.1.2.2.2.2.2.2.1, x.2.2.1.2.2.2.2.2.2.2.1, List.take (x.2.2.1.2.2.2.2.2.2.2.2.1.length + (1 : Nat)) (List.take x.2.2.1.2.2.2.2.2.2.2.2.1.length x.2.2.1.2.2.2.2.2.2.2.2.1 ++ [(↑(x.2.2.1.2.1.length + List.length y_3.fst) : Int)]), List.take (x.2.2.1.2.2.2.2.2.2.2.2.2.1.length + (1 : Nat)) (List.take x.2.2.1.2.2.2.2.2.2.2.2.2.1.length x.2.2.1.2.2.2.2.2.2.2.2.2.1 ++ [false]), ()), y.1, x.2.2.2.2.1, ())) (T.ite ((↑(List.take (x.2.2.1.2.2.2.2.2.2.2.2.1.length + (1 : Nat)) (List.take x.2.2.1.2.2.2.2.2.2.2.2.1.length x.2.2.1.2.2.2.2.2.2.2.2.1 ++ [(↑(x.2.2.1.2.1.length + List.length y_3.fst) : Int)])).length : Int) != (↑(List.length y.1.2.1) : Int)) (T.ret (Ex.ret, x.1, false, (List.take x.2.2.1.1.length x.2.2.1.1, List.take (x.2.2.1.2.1.length + List.length y_3.fst) (List.take x.2.2.1.2.1.length x.2.2.1.2.1 ++ y_3.fst), List.take x.2.2.1.2.2.1.length x.2.2.1.2.2.1, x.2.2.1.2.2.2.1, List.take x.2.2.1.2.2.2.2.1.length x.2.2.1.2.2.2.2.1, x.2.2.1.2.2.2.2.2.1, x.2.2.1.2.2.2.2.2.2.1, x.2.2.1.2.2.2.2.2.2.2.1, List.take (x.2.2.1.2.2.2.2.2.2.2.2.1.length + (1 : Nat)) (List.take x.2.2.1.2.2.2.2.2.2.2.2.1.length x.2.2.1.2.2.2.2.2.2.2.2.1 ++ [(↑(x.2.2.1.2.1.length + List.length y_3.fst) : Int)]), List.take (x.2.2.1.2.2.2.2.2.2.2.2.2.1.length + (1 : Nat)) (List.take x.2.2.1.2.2.2.2.2.2.2.2.2.1.length x.2.2.1.2.2.2.2.2.2.2.2.2.1 ++ [false]), ()), y.1, x.2.2.2.2.1, ())) (T.ret (Ex.normal, x.1, x.2.1, (List.take x.2.2.1.1.length x.2.2.1.1, List.take (x.2.2.1.2.1.length + List.length y_3.fst) (List.take x.2.2.1.2.1.length x.2.2.1.2.1 ++ y_3.fst), List.take x.2.2.1.2.2.1.length x.2.2.1.2.2.1, x.2.2.1.2.2.2.1, List.take x.2.2.1.2.2.2.2.1.length x.2.2.1.2.2.2.2.1, x.2.2.1.2.2.2.2.2.1, x.2.2.1.2.2.2.2.2.2.1, x.2.2.1.2.2.2.2.2.2.2.1, List.take (x.2.2.1.2.2.2.2.2.2.2.2.1.length + (1 : Nat)) (List.take x.2.2.1.2.2.2.2.2.2.2.2.1.length x.2.2.1.2.2.2.2.2.2.2.2.1 ++ [(↑(x.2.2.1.2.1.length + List.length y_3.fst) : Int)]), List.take (x.2.2.1.2.2.2.2.2.2.2.2.2.1.length + (1 : Nat)) (List.take x.2.2.1.2.2.2.2.2.2.2.2.2.1.length x.2.2.1.2.2.2.2.2.2.2.2.2.1 ++ [false]), ()), y.1, W (x.2.2.2.2.1 + (1 : Int)), ())))) T.fail) T.fail) T.fail))) (T.ite (y_1.snd != (0 : Int)) (T.opt (law47_Made_put (x.2.2.2.1, y)) fun y => T.ite (!((0 : Int) == y.2.1 && y_1.snd == y.2.2)) (T.ret (Ex.ret, x.1, false, (List.take x.2.2.1.1.length x.2.2.1.1, List.take x.2.2.1.2.1.length x.2.2.1.2.1, List.take x.2.2.1.2.2.1.length x.2.2.1.2.2.1, x.2.2.1.2.2.2.1, List.take x.2.2.1.2.2.2.2.1.length x.2.2.1.2.2.2.2.1, x.2.2.1.2.2.2.2.2.1, x.2.2.1.2.2.2.2.2.2.1, x.2.2.1.2.2.2.2.2.2.2.1, List.take x.2.2.1.2.2.2.2.2.2.2.2.1.length x.2.2.1.2.2.2.2.2.2.2.2.1, List.take x.2.2.1.2.2.2.2.2.2.2.2.2.1.length x.2.2.1.2.2.2.2.2.2.2.2.2.1, ()), y.1, x.2.2.2.2.1, ())) (T.ite ((↑(List.take x.2.2.1.2.2.2.2.2.2.2.2.1.length x.2.2.1.2.2.2.2.2.2.2.2.1).length : Int) != (↑(List.length y.1.2.1) : Int)) (T.ret (Ex.ret, x.1, false, (List.take x.2.2.1.1.length x.2.2.1.1, List.take x.2.2.1.2.1.length x.2.2.1.2.1, List.take x.2.2.1.2.2.1.length x.2.2.1.2.2.1, x.2.2.1.2.2.2.1, List.take x.2.2.1.2.2.2.2.1.length x.2.2.1.2.2.2.2.1, x.2.2.1.2.2.2.2.2.1, x.2.2.1.2.2.2.2.2.2.1, x.2.2.1.2.2.2.2.2.2.2.1, List.take x.2.2.1.2.2.2.2.2.2.2.2.1.length x.2.2.1.2.2.2.2.2.2.2.2.1, List.take x.2.2.1.2.2.2.2.2.2.2.2.2.1.length x.2.2.1.2.2.2.2.2.2.2.2.2.1, ()), y.1, x.2.2.2.2.1, ())) (T.ret (Ex.normal, x.1, x.2.1, (List.take x.2.2.1.1.length x.2.2.1.1, List.take x.2.2.1.2.1.length x.2.2.1.2.1, List.take x.2.2.1.2.2.1.length x.2.2.1.2.2.1, x.2.2.1.2.2.2.1, List.take x.2.2.1.2.2.2.2.1.length x.2.2.1.2.2.2.2.1, x.2.2.1.2.2.2.2.2.1, x.2.2.1.2.2.2.2.2.2.1, x.2.2.1.2.2.2.2.2.2.2.1, List.take x.2.2.1.2.2.2.2.2.2.2.2.1.length x.2.2.1.2.2.2.2.2.2.2.2.1, List.take x.2.2.1.2.2.2.2.2.2.2.2.2.1.length x.2.2.1.2.2.2.2.2.2.2.2.2.1, ()), y.1, W (x.2.2.2.2.1 + (1 : Int)), ())))) (T.ite (decide (W ((↑x.2.2.1.2.1.length : Int) + (↑(List.length y_1.fst.snd) : Int)) > (512 : Int))) (T.opt (law47_Made_put (x.2.2.2.1, y)) fun y => T.ite (!((0 : Int) == y.2.1 && (4 : Int) == y.2.2)) (T.ret (Ex.ret, x.1, false, (List.take x.2.2.1.1.length x.2.2.1.1, List.take x.2.2.1.2.1.length x.2.2.1.2.1, List.take x.2.2.1.2.2.1.length x.2.2.1.2.2.1, x.2.2.1.2.2.2.1, List.take x.2.2.1.2.2.2.2.1.length x.2.2.1.2.2.2.2.1, x.2.2.1.2.2.2.2.2.1, x.2.2.1.2.2.2.2.2.2.1, x.2.2.1.2.2.2.2.2.2.2.1, List.take x.2.2.1.2.2.2.2.2.2.2.2.1.length x.2.2.1.2.2.2.2.2.2.2.2.1, List.take x.2.2.1.2.2.2.2.2.2.2.2.2.1.length x.2.2.1.2.2.2.2.2.2.2.2.2.1, ()), y.1, x.2.2.2.2.1, ())) (T.ite ((↑(List.take x.2.2.1.2.2.2.2.2.2.2.2.1.length x.2.2.1.2.2.2.2.2.2.2.2.1).length : Int) != (↑(List.length y.1.2.1) : Int)) (T.ret (Ex.ret, x.1, false, (List.take x.2.2.1.1.length x.2.2.1.1, List.take x.2.2.1.2.1.length x.2.2.1.2.1, List.take x.2.2.1.2.2.1.length x.2.2.1.2.2.1, x.2.2.1.2.2.2.1, List.take x.2.2.1.2.2.2.2.1.length x.2.2.1.2.2.2.2.1, x.2.2.1.2.2.2.2.2.1, x.2.2.1.2.2.2.2.2.2.1, x.2.2.1.2.2.2.2.2.2.2.1, List.take x.2.2.1.2.2.2.2.2.2.2.2.1.length x.2.2.1.2.2.2.2.2.2.2.2.1, List.take x.2.2.1.2.2.2.2.2.2.2.2.2.1.length x.2.2.1.2.2.2.2.2.2.2.2.2.1, ()), y.1, x.2.2.2.2.1, ())) (T.ret (Ex.normal, x.1, x.2.1, (List.take x.2.2.1.1.length x.2.2.1.1, List.take x.2.2.1.2.1.length x.2.2.1.2.1, List.take x.2.2.1.2.2.1.length x.2.2.1.2.2.1, x.2.2.1.2.2.2.1, List.take x.2.2.1.2.2.2.2.1.length x.2.2.1.2.2.2.2.1, x.2.2.1.2.2.2.2.2.1, x.2.2.1.2.2.2.2.2.2.1, x.2.2.1.2.2.2.2.2.2.2.1, List.take x.2.2.1.2.2.2.2.2.2.2.2.1.length x.2.2.1.2.2.2.2.2.2.2.2.1, List.take x.2.2.1.2.2.2.2.2.2.2.2.2.1.length x.2.2.1.2.2.2.2.2.2.2.2.2.1, ()), y.1, W (x.2.2.2.2.1 + (1 : Int)), ())))) (T.opt (mesh_Tris (y_1.fst, y.2.2.1)) fun y_2 => T.ite (decide ((x.2.2.1.2.1.length + List.length y_2.fst) * nat_lit 80 ≤ most)) (T.ite (decide ((x.2.2.1.2.2.2.2.2.2.2.2.1.length + (1 : Nat)) * nat_lit 8 ≤ most)) (T.ite (decide ((x.2.2.1.2.2.2.2.2.2.2.2.2.1.length + (1 : Nat)) * nat_lit 1 ≤ most)) (T.opt (law47_Made_put (x.2.2.2.1, y)) fun y => T.ite (!(W ((↑(x.2.2.1.2.2.2.2.2.2.2.2.1.length + (1 : Nat)) : Int) - (1 : Int)) == y.2.1 && (0 : Int) == y.2.2)) (T.ret (Ex.ret, x.1, false, (List.take x.2.2.1.1.length x.2.2.1.1, List.take (x.2.2.1.2.1.length + List.length y_2.fst) (List.take x.2.2.1.2.1.length x.2.2.1.2.1 ++ y_2.fst), List.take x.2.2.1.2.2.1.length x.2.2.1.2.2.1, x.2.2.1.2.2.2.1, List.take x.2.2.1.2.2.2.2.1.length x.2.2.1.2.2.2.2.1, x.2.2.1.2.2.2.2.2.1, x.2.2.1.2.2.2.2.2.2.1, x.2.2.1.2.2.2.2.2.2.2.1, List.take (x.2.2.1.2.2.2.2.2.2.2.2.1.length + (1 : Nat)) (List.take x.2.2.1.2.2.2.2.2.2.2.2.1.length x.2.2.1.2.2.2.2.2.2.2.2.1 ++ [(↑(x.2.2.1.2.1.length + List.length y_2.fst) : Int)]), List.take (x.2.2.1.2.2.2.2.2.2.2.2.2.1.length + (1 : Nat)) (List.take x.2.2.1.2.2.2.2.2.2.2.2.2.1.length x.2.2.1.2.2.2.2.2.2.2.2.2.1 ++ [false]), ()), y.1, x.2.2.2.2.1, ())) (T.ite ((↑(List.take (x.2.2.1.2.2.2.2.2.2.2.2.1.length + (1 : Nat)) (List.take x.2.2.1.2.2.2.2.2.2.2.2.1.length x.2.2.1.2.2.2.2.2.2.2.2.1 ++ [(↑(x.2.2.1.2.1.length + List.length y_2.fst) : Int)])).length : Int) != (↑(List.length y.1.2.1) : Int)) (T.ret (Ex.ret, x.1, false, (List.take x.2.2.1.1.length x.2.2.1.1, List.take (x.2.2.1.2.1.length + List.length y_2.fst) (List.take x.2.2.1.2.1.length x.2.2.1.2.1 ++ y_2.fst), List.take x.2.2.1.2.2.1.length x.2.2.1.2.2.1, x.2.2.1.2.2.2.1, List.take x.2.2.1.2.2.2.2.1.length x.2.2.1.2.2.2.2.1, x.2.2.1.2.2.2.2.2.1, x.2.2.1.2.2.2.2.2.2.1, x.2.2.1.2.2.2.2.2.2.2.1, List.take (x.2.2.1.2.2.2.2.2.2.2.2.1.length + (1 : Nat)) (List.take x.2.2.1.2.2.2.2.2.2.2.2.1.length x.2.2.1.2.2.2.2.2.2.2.2.1 ++ [(↑(x.2.2.1.2.1.length + List.length y_2.fst) : Int)]), List.take (x.2.2.1.2.2.2.2.2.2.2.2.2.1.length + (1 : Nat)) (List.take x.2.2.1.2.2.2.2.2.2.2.2.2.1.length x.2.2.1.2.2.2.2.2.2.2.2.2.1 ++ [false]), ()), y.1, x.2.2.2.2.1, ())) (T.ret (Ex.normal, x.1, x.2.1, (List.take x.2.2.1.1.length x.2.2.1.1, List.take (x.2.2.1.2.1.length + List.length y_2.fst) (List.take x.2.2.1.2.1.length x.2.2.1.2.1 ++ y_2.fst), List.take x.2.2.1.2.2.1.length x.2.2.1.2.2.1, x.2.2.1.2.2.2.1, List.take x.2.2.1.2.2.2.2.1.length x.2.2.1.2.2.2.2.1, x.2.2.1.2.2.2.2.2.1, x.2.2.1.2.2.2.2.2.2.1, x.2.2.1.2.2.2.2.2.2.2.1, List.take (x.2.2.1.2.2.2.2.2.2.2.2.1.length + (1 : Nat)) (List.take x.2.2.1.2.2.2.2.2.2.2.2.1.length x.2.2.1.2.2.2.2.2.2.2.2.1 ++ [(↑(x.2.2.1.2.1.length + List.length y_2.fst) : Int)]), List.take (x.2.2.1.2.2.2.2.2.2.2.2.2.1.length + (1 : Nat)) (List.take x.2.2.1.2.2.2.2.2.2.2.2.2.1.length x.2.2.1.2.2.2.2.2.2.2.2.2.1 ++ [false]), ()), y.1, W (x.2.2.2.2.1 + (1 : Int)), ())))) T.fail) T.fail) T.fail)))))))))) (T.ret (Ex.exit (0 : Nat), x.1, x.2.1, (List.take x.2.2.1.1.length x.2.2.1.1, List.take x.2.2.1.2.1.length x.2.2.1.2.1, List.take x.2.2.1.2.2.1.length x.2.2.1.2.2.1, x.2.2.1.2.2.2.1, List.take x.2.2.1.2.2.2.2.1.length x.2.2.1.2.2.2.2.1, x.2.2.1.2.2.2.2.2.1, x.2.2.1.2.2.2.2.2.2.1, x.2.2.1.2.2.2.2.2.2.2.1, List.take x.2.2.1.2.2.2.2.2.2.2.2.1.length x.2.2.1.2.2.2.2.2.2.2.2.1, List.take x.2.2.1.2.2.2.2.2.2.2.2.2.1.length x.2.2.1.2.2.2.2.2.2.2.2.2.1, ()), x.2.2.2.1, x.2.2.2.2.1, ()))
noncomputable def law47_BuildMakes.l0 (x : (List (Int × Int × Int × Int × (Int × Int × Int) × (Int × Int × Int) × ((Int × Int × Int) × (Int × Int × Int) × (Int × Int × Int) × Int × Int × Int) × ((Int × Int × Int) × (Int × Int × Int) × Int) × List (Int × Int × Int))) × Bool × (List ((Int × Int × Int) × (Int × Int × Int) × Int) × List ((Int × Int × Int) × (Int × Int × Int) × (Int × Int × Int) × Int) × List (Int × Int × Int × Int) × Int × List (Int × Int × Int) × ((Int × Int × Int) × (Int × Int × Int) × (Int × Int × Int) × Int × Int × Int) × Int × Int × List Int × List Bool × Unit) × (((List ((Int × Int × Int) × (Int × Int × Int) × Int)) × (List ((Int × Int × Int) × (Int × Int × Int) × (Int × Int × Int) × Int)) × (List (Int × Int × Int × Int)) × Int × (List (Int × Int × Int)) × ((Int × Int × Int) × (Int × Int × Int) × (Int × Int × Int) × Int × Int × Int) × Int × Int) × List (Int) × List (Bool)) × Int × Unit) : Option (Ex × (List (Int × Int × Int × Int × (Int × Int × Int) × (Int × Int × Int) × ((Int × Int × Int) × (Int × Int × Int) × (Int × Int × Int) × Int × Int × Int) × ((Int × Int × Int) × (Int × Int × Int) × Int) × List (Int × Int × Int))) × Bool × (List ((Int × Int × Int) × (Int × Int × Int) × Int) × List ((Int × Int × Int) × (Int × Int × Int) × (Int × Int × Int) × Int) × List (Int × Int × Int × Int) × Int × List (Int × Int × Int) × ((Int × Int × Int) × (Int × Int × Int) × (Int × Int × Int) × Int × Int × Int) × Int × Int × List Int × List Bool × Unit) × (((List ((Int × Int × Int) × (Int × Int × Int) × Int)) × (List ((Int × Int × Int) × (Int × Int × Int) × (Int × Int × Int) × Int)) × (List (Int × Int × Int × Int)) × Int × (List (Int × Int × Int)) × ((Int × Int × Int) × (Int × Int × Int) × (Int × Int × Int) × Int × Int × Int) × Int × Int) × List (Int) × List (Bool)) × Int × Unit) := (iterT law47_BuildMakes.t0 rounds x).run
theorem law47_BuildMakes.k0 : bodies 0 (lp Tryz.f3 []) = [.loop (loopIn 0 (lp Tryz.f3 []))] ∧ WP Tryz.prog 0 (.block 0 (.loop (loopIn 0 (lp Tryz.f3 [])))) (loopS law47_BuildMakes.L0 129 0 [.exit 0, .ret] law47_BuildMakes.l0) :=
  loop_tree (L := law47_BuildMakes.L0) (F := (dpZ Tryz.prog (ext (ext (ext (ext (ext (ext (ext (ext (ext (ext (ext (ext (ext (ext (ext Xs 5 law47_awake.q) 7 build_Builder_Things.q) 8 build_Builder_Tris.q) 9 law47_Made_first.q) 13 fault_Is.q) 14 ref22_Same.q) 35 build_shape.q) 36 xform_Mesh.q) 37 mesh_Tris.q) 22 fault_New.q) 19 law47_Made_shine.q) 21 law47_Made_put.q) 75 scene_lights_1.q) 86 scene_within_1.q) 92 xform_dot_1.q) law47_BuildMakes.deeps [6] law47_BuildMakes.tabl 100 8)) (D := (inL law47_BuildMakes.deeps.D)) (tab := []) (t := law47_BuildMakes.t0) mixed (dpZ_ok mixed (quiet_ext (quiet_ext (quiet_ext (quiet_ext (quiet_ext (quiet_ext (quiet_ext (quiet_ext (quiet_ext (quiet_ext (quiet_ext (quiet_ext (quiet_ext (quiet_ext (quiet_ext Xok law47_awake.ok) build_Builder_Things.ok) build_Builder_Tris.ok) law47_Made_first.ok) fault_Is.ok) ref22_Same.ok) build_shape.ok) xform_Mesh.ok) mesh_Tris.ok) fault_New.ok) law47_Made_shine.ok) law47_Made_put.ok) scene_lights_1.ok) scene_within_1.ok) xform_dot_1.ok) law47_BuildMakes.deepsOk [6] law47_BuildMakes.tablOk 100 8).1 (dpZ_ok mixed (quiet_ext (quiet_ext (quiet_ext (quiet_ext (quiet_ext (quiet_ext (quiet_ext (quiet_ext (quiet_ext (quiet_ext (quiet_ext (quiet_ext (quiet_ext (quiet_ext (quiet_ext Xok law47_awake.ok) build_Builder_Things.ok) build_Builder_Tris.ok) law47_Made_first.ok) fault_Is.ok) ref22_Same.ok) build_shape.ok) xform_Mesh.ok) mesh_Tris.ok) fault_New.ok) law47_Made_shine.ok) law47_Made_put.ok) scene_lights_1.ok) scene_within_1.ok) xform_dot_1.ok) law47_BuildMakes.deepsOk [6] law47_BuildMakes.tablOk 100 8).2 (fun _ => rfl) (by kernel_rfl) (by kernel_rfl) trivial (fun x => by kernel_rfl)
def law47_BuildMakes.L2 : List (Nat × Lay) := [(4, .val .bool), (5, .obx [.own TMatD, .own TTriD, .own TLitD, .dat TI, .own TP, .dat TCam, .dat TI, .dat TI, .own TI, .own .bool]), (6, .box TMade), (9, .val TI)]
noncomputable def law47_BuildMakes.t2 (x : Bool × (List ((Int × Int × Int) × (Int × Int × Int) × Int) × List ((Int × Int × Int) × (Int × Int × Int) × (Int × Int × Int) × Int) × List (Int × Int × Int × Int) × Int × List (Int × Int × Int) × ((Int × Int × Int) × (Int × Int × Int) × (Int × Int × Int) × Int × Int × Int) × Int × Int × List Int × List Bool × Unit) × (((List ((Int × Int × Int) × (Int × Int × Int) × Int)) × (List ((Int × Int × Int) × (Int × Int × Int) × (Int × Int × Int) × Int)) × (List (Int × Int × Int × Int)) × Int × (List (Int × Int × Int)) × ((Int × Int × Int) × (Int × Int × Int) × (Int × Int × Int) × Int × Int × Int) × Int × Int) × List (Int) × List (Bool)) × Int × Unit) : T (Ex × Bool × (List ((Int × Int × Int) × (Int × Int × Int) × Int) × List ((Int × Int × Int) × (Int × Int × Int) × (Int × Int × Int) × Int) × List (Int × Int × Int × Int) × Int × List (Int × Int × Int) × ((Int × Int × Int) × (Int × Int × Int) × (Int × Int × Int) × Int × Int × Int) × Int × Int × List Int × List Bool × Unit) × (((List ((Int × Int × Int) × (Int × Int × Int) × Int)) × (List ((Int × Int × Int) × (Int × Int × Int) × (Int × Int × Int) × Int)) × (List (Int × Int × Int × Int)) × Int × (List (Int × Int × Int)) × ((Int × Int × Int) × (Int × Int × Int) × (Int × Int × Int) × Int × Int × Int) × Int × Int) × List (Int) × List (Bool)) × Int × Unit) := T.ite (decide (x.2.2.2.1 < (↑(List.length x.2.2.1.2.1) : Int))) (T.opt (build_Builder_Tris (((List.take x.2.1.1.length x.2.1.1, List.take x.2.1.2.1.length x.2.1.2.1, List.take x.2.1.2.2.1.length x.2.1.2.2.1, x.2.1.2.2.2.1, List.take x.2.1.2.2.2.2.1.length x.2.1.2.2.2.2.1, x.2.1.2.2.2.2.2.1, x.2.1.2.2.2.2.2.2.1, x.2.1.2.2.2.2.2.2.2.1), List.take x.2.1.2.2.2.2.2.2.2.2.1.length x.2.1.2.2.2.2.2.2.2.2.1, List.take x.2.1.2.2.2.2.2.2.2.2.2.1.length x.2.1.2.2.2.2.2.2.2.2.2.1), x.2.2.2.1)) fun y => T.opt (law47_Made_first (x.2.2.1, x.2.2.2.1)) fun y_1 => T.ite (y.1 != y_1) (T.ret (Ex.ret, false, (List.take x.2.1.1.length x.2.1.1, List.take x.2.1.2.1.length x.2.1.2.1, List.take x.2.1.2.2.1.length x.2.1.2.2.1, x.2.1.2.2.2.1, List.take x.2.1.2.2.2.2.1.length x.2.1.2.2.2.2.1, x.2.1.2.2.2.2.2.1, x.2.1.2.2.2.2.2.2.1, x.2.1.2.2.2.2.2.2.2.1, List.take x.2.1.2.2.2.2.2.2.2.2.1.length x.2.1.2.2.2.2.2.2.2.2.1, List.take x.2.1.2.2.2.2.2.2.2.2.2.1.length x.2.1.2.2.2.2.2.2.2.2.2.1, ()), x.2.2.1, x.2.2.2.1, ())) (T.opt (lget x.2.2.1.2.1 x.2.2.2.1) fun y_2 => T.ite (y.2 != y_2) (T.ret (Ex.ret, false, (List.take x.2.1.1.length x.2.1.1, List.take x.2.1.2.1.length x.2.1.2.1, List.take x.2.1.2.2.1.length x.2.1.2.2.1, x.2.1.2.2.2.1, List.take x.2.1.2.2.2.2.1.length x.2.1.2.2.2.2.1, x.2.1.2.2.2.2.2.1, x.2.1.2.2.2.2.2.2.1, x.2.1.2.2.2.2.2.2.2.1, List.take x.2.1.2.2.2.2.2.2.2.2.1.length x.2.1.2.2.2.2.2.2.2.2.1, List.take x.2.1.2.2.2.2.2.2.2.2.2.1.length x.2.1.2.2.2.2.2.2.2.2.2.1, ()), x.2.2.1, x.2.2.2.1, ())) (T.ret (Ex.normal, x.1, (List.take x.2.1.1.length x.2.1.1, List.take x.2.1.2.1.length x.2.1.2.1, List.take x.2.1.2.2.1.length x.2.1.2.2.1, x.2.1.2.2.2.1, List.take x.2.1.2.2.2.2.1.length x.2.1.2.2.2.2.1, x.2.1.2.2.2.2.2.1, x.2.1.2.2.2.2.2.2.1, x.2.1.2.2.2.2.2.2.2.1, List.take x.2.1.2.2.2.2.2.2.2.2.1.length x.2.1.2.2.2.2.2.2.2.2.1, List.take x.2.1.2.2.2.2.2.2.2.2.2.1.length x.2.1.2.2.2.2.2.2.2.2.2.1, ()), x.2.2.1, W (x.2.2.2.1 + (1 : Int)), ())))) (T.ret (Ex.exit (2 : Nat), x.1, (List.take x.2.1.1.length x.2.1.1, List.take x.2.1.2.1.length x.2.1.2.1, List.take x.2.1.2.2.1.length x.2.1.2.2.1, x.2.1.2.2.2.1, List.take x.2.1.2.2.2.2.1.length x.2.1.2.2.2.2.1, x.2.1.2.2.2.2.2.1, x.2.1.2.2.2.2.2.2.1, x.2.1.2.2.2.2.2.2.2.1, List.take x.2.1.2.2.2.2.2.2.2.2.1.length x.2.1.2.2.2.2.2.2.2.2.1, List.take x.2.1.2.2.2.2.2.2.2.2.2.1.length x.2.1.2.2.2.2.2.2.2.2.2.1, ()), x.2.2.1, x.2.2.2.1, ()))
noncomputable def law47_BuildMakes.l2 (x : Bool × (List ((Int × Int × Int) × (Int × Int × Int) × Int) × List ((Int × Int × Int) × (Int × Int × Int) × (Int × Int × Int) × Int) × List (Int × Int × Int × Int) × Int × List (Int × Int × Int) × ((Int × Int × Int) × (Int × Int × Int) × (Int × Int × Int) × Int × Int × Int) × Int × Int × List Int × List Bool × Unit) × (((List ((Int × Int × Int) × (Int × Int × Int) × Int)) × (List ((Int × Int × Int) × (Int × Int × Int) × (Int × Int × Int) × Int)) × (List (Int × Int × Int × Int)) × Int × (List (Int × Int × Int)) × ((Int × Int × Int) × (Int × Int × Int) × (Int × Int × Int) × Int × Int × Int) × Int × Int) × List (Int) × List (Bool)) × Int × Unit) : Option (Ex × Bool × (List ((Int × Int × Int) × (Int × Int × Int) × Int) × List ((Int × Int × Int) × (Int × Int × Int) × (Int × Int × Int) × Int) × List (Int × Int × Int × Int) × Int × List (Int × Int × Int) × ((Int × Int × Int) × (Int × Int × Int) × (Int × Int × Int) × Int × Int × Int) × Int × Int × List Int × List Bool × Unit) × (((List ((Int × Int × Int) × (Int × Int × Int) × Int)) × (List ((Int × Int × Int) × (Int × Int × Int) × (Int × Int × Int) × Int)) × (List (Int × Int × Int × Int)) × Int × (List (Int × Int × Int)) × ((Int × Int × Int) × (Int × Int × Int) × (Int × Int × Int) × Int × Int × Int) × Int × Int) × List (Int) × List (Bool)) × Int × Unit) := (iterT law47_BuildMakes.t2 rounds x).run
theorem law47_BuildMakes.k2 : bodies 2 (lp Tryz.f3 []) = [.loop (loopIn 2 (lp Tryz.f3 []))] ∧ WP Tryz.prog 0 (.block 2 (.loop (loopIn 2 (lp Tryz.f3 [])))) (loopS law47_BuildMakes.L2 129 2 [.exit 2, .ret] law47_BuildMakes.l2) :=
  loop_tree (L := law47_BuildMakes.L2) (F := (dpZ Tryz.prog (ext (ext (ext (ext (ext (ext (ext (ext (ext (ext (ext (ext (ext (ext (ext Xs 5 law47_awake.q) 7 build_Builder_Things.q) 8 build_Builder_Tris.q) 9 law47_Made_first.q) 13 fault_Is.q) 14 ref22_Same.q) 35 build_shape.q) 36 xform_Mesh.q) 37 mesh_Tris.q) 22 fault_New.q) 19 law47_Made_shine.q) 21 law47_Made_put.q) 75 scene_lights_1.q) 86 scene_within_1.q) 92 xform_dot_1.q) law47_BuildMakes.deeps [6] law47_BuildMakes.tabl 100 8)) (D := (inL law47_BuildMakes.deeps.D)) (tab := []) (t := law47_BuildMakes.t2) mixed (dpZ_ok mixed (quiet_ext (quiet_ext (quiet_ext (quiet_ext (quiet_ext (quiet_ext (quiet_ext (quiet_ext (quiet_ext (quiet_ext (quiet_ext (quiet_ext (quiet_ext (quiet_ext (quiet_ext Xok law47_awake.ok) build_Builder_Things.ok) build_Builder_Tris.ok) law47_Made_first.ok) fault_Is.ok) ref22_Same.ok) build_shape.ok) xform_Mesh.ok) mesh_Tris.ok) fault_New.ok) law47_Made_shine.ok) law47_Made_put.ok) scene_lights_1.ok) scene_within_1.ok) xform_dot_1.ok) law47_BuildMakes.deepsOk [6] law47_BuildMakes.tablOk 100 8).1 (dpZ_ok mixed (quiet_ext (quiet_ext (quiet_ext (quiet_ext (quiet_ext (quiet_ext (quiet_ext (quiet_ext (quiet_ext (quiet_ext (quiet_ext (quiet_ext (quiet_ext (quiet_ext (quiet_ext Xok law47_awake.ok) build_Builder_Things.ok) build_Builder_Tris.ok) law47_Made_first.ok) fault_Is.ok) ref22_Same.ok) build_shape.ok) xform_Mesh.ok) mesh_Tris.ok) fault_New.ok) law47_Made_shine.ok) law47_Made_put.ok) scene_lights_1.ok) scene_within_1.ok) xform_dot_1.ok) law47_BuildMakes.deepsOk [6] law47_BuildMakes.tablOk 100 8).2 (fun _ => rfl) (by kernel_rfl) (by kernel_rfl) trivial (fun x => by kernel_rfl)
noncomputable def law47_BuildMakes.t (x : ((Int × Int × Int) × (Int × Int × Int) × (Int × Int × Int) × Int × Int × Int) × (List (Int × Int × Int × Int × (Int × Int × Int) × (Int × Int × Int) × ((Int × Int × Int) × (Int × Int × Int) × (Int × Int × Int) × Int × Int × Int) × ((Int × Int × Int) × (Int × Int × Int) × Int) × List (Int × Int × Int)))) : T (Bool) := T.ite false (T.ret false) (T.opt (law47_BuildMakes.l0 (x.2, false, ([], [], [], (0 : Int), [], x.1, (1 : Int), (512 : Int), [], [], ()), (([], [], [], (0 : Int), [], x.1, (1 : Int), (512 : Int)), [], []), (0 : Int), ())) fun y => T.ite (exEq y.1 (Ex.exit (0 : Nat))) (T.opt (law47_BuildMakes.l2 (y.2.2.1, (List.take y.2.2.2.1.1.length y.2.2.2.1.1, List.take y.2.2.2.1.2.1.length y.2.2.2.1.2.1, List.take y.2.2.2.1.2.2.1.length y.2.2.2.1.2.2.1, y.2.2.2.1.2.2.2.1, List.take y.2.2.2.1.2.2.2.2.1.length y.2.2.2.1.2.2.2.2.1, y.2.2.2.1.2.2.2.2.2.1, y.2.2.2.1.2.2.2.2.2.2.1, y.2.2.2.1.2.2.2.2.2.2.2.1, List.take y.2.2.2.1.2.2.2.2.2.2.2.2.1.length y.2.2.2.1.2.2.2.2.2.2.2.2.1, List.take y.2.2.2.1.2.2.2.2.2.2.2.2.2.1.length y.2.2.2.1.2.2.2.2.2.2.2.2.2.1, ()), y.2.2.2.2.1, (0 : Int), ())) fun y => T.ite (exEq y.1 (Ex.exit (2 : Nat))) (T.opt (scene_Check (List.take y.2.2.1.1.length y.2.2.1.1, List.take y.2.2.1.2.1.length y.2.2.1.2.1, List.take y.2.2.1.2.2.1.length y.2.2.1.2.2.1, y.2.2.1.2.2.2.1, List.take y.2.2.1.2.2.2.2.1.length y.2.2.1.2.2.2.2.1, y.2.2.1.2.2.2.2.2.1, y.2.2.1.2.2.2.2.2.2.1, y.2.2.1.2.2.2.2.2.2.2.1)) fun y_1 => T.ite (!y_1.isNil) (T.opt (ref22_Check y.2.2.2.1.1) fun y_2 => T.ite (!(y_2.fst == (0 : Int) && (y_2.snd.fst == (0 : Int) && y_2.snd.snd == (0 : Int)))) (T.ite (!y_1.isNil) (T.ite (y_1.top == y_2.fst) (T.opt (fault_Is (y_1, y_2.snd.fst)) fun y => T.ite y (T.opt (ref22_Same (([], [], [], (0 : Int), [], (((0 : Int), (0 : Int), (0 : Int)), ((0 : Int), (0 : Int), (0 : Int)), ((0 : Int), (0 : Int), (0 : Int)), (0 : Int), (0 : Int), (0 : Int)), (0 : Int), (0 : Int)), [], [], [], (0 : Int), [], (((0 : Int), (0 : Int), (0 : Int)), ((0 : Int), (0 : Int), (0 : Int)), ((0 : Int), (0 : Int), (0 : Int)), (0 : Int), (0 : Int), (0 : Int)), (0 : Int), (0 : Int))) fun y => T.ret y) (T.ret false)) (T.ret false)) (T.ret false)) (T.ite y_1.isNil (T.opt (ref22_Same (([], [], [], (0 : Int), [], (((0 : Int), (0 : Int), (0 : Int)), ((0 : Int), (0 : Int), (0 : Int)), ((0 : Int), (0 : Int), (0 : Int)), (0 : Int), (0 : Int), (0 : Int)), (0 : Int), (0 : Int)), y.2.2.2.1.1)) fun y => T.ret y) (T.ret false))) (T.ite (decide ((List.take y.2.2.1.1.length y.2.2.1.1).length * (56 : Nat) ≤ most)) (T.ite (decide ((List.take y.2.2.1.2.1.length y.2.2.1.2.1).length * (80 : Nat) ≤ most)) (T.ite (decide ((List.take y.2.2.1.2.2.1.length y.2.2.1.2.2.1).length * (32 : Nat) ≤ most)) (T.ite (decide ((List.take y.2.2.1.2.2.2.2.1.length y.2.2.1.2.2.2.2.1).length * (24 : Nat) ≤ most)) (T.opt (ref22_Check y.2.2.2.1.1) fun y_2 => T.ite (!(y_2.fst == (0 : Int) && (y_2.snd.fst == (0 : Int) && y_2.snd.snd == (0 : Int)))) (T.ite false (T.ite ((0 : Int) == y_2.fst) (T.opt (fault_Is (ErrD.nil, y_2.snd.fst)) fun y_3 => T.ite y_3 (T.opt (ref22_Same ((List.take (List.take y.2.2.1.1.length y.2.2.1.1).length (List.take y.2.2.1.1.length y.2.2.1.1), List.take (List.take y.2.2.1.2.1.length y.2.2.1.2.1).length (List.take y.2.2.1.2.1.length y.2.2.1.2.1), List.take (List.take y.2.2.1.2.2.1.length y.2.2.1.2.2.1).length (List.take y.2.2.1.2.2.1.length y.2.2.1.2.2.1), y.2.2.1.2.2.2.1, List.take (List.take y.2.2.1.2.2.2.2.1.length y.2.2.1.2.2.2.2.1).length (List.take y.2.2.1.2.2.2.2.1.length y.2.2.1.2.2.2.2.1), y.2.2.1.2.2.2.2.2.1, y.2.2.1.2.2.2.2.2.2.1, y.2.2.1.2.2.2.2.2.2.2.1), [], [], [], (0 : Int), [], (((0 : Int), (0 : Int), (0 : Int)), ((0 : Int), (0 : Int), (0 : Int)), ((0 : Int), (0 : Int), (0 : Int)), (0 : Int), (0 : Int), (0 : Int)), (0 : Int), (0 : Int))) fun y => T.ret y) (T.ret false)) (T.ret false)) (T.ret false)) (T.ite true (T.opt (ref22_Same ((List.take (List.take y.2.2.1.1.length y.2.2.1.1).length (List.take y.2.2.1.1.length y.2.2.1.1), List.take (List.take y.2.2.1.2.1.length y.2.2.1.2.1).length (List.take y.2.2.1.2.1.length y.2.2.1.2.1), List.take (List.take y.2.2.1.2.2.1.length y.2.2.1.2.2.1).length (List.take y.2.2.1.2.2.1.length y.2.2.1.2.2.1), y.2.2.1.2.2.2.1, List.take (List.take y.2.2.1.2.2.2.2.1.length y.2.2.1.2.2.2.2.1).length (List.take y.2.2.1.2.2.2.2.1.length y.2.2.1.2.2.2.2.1), y.2.2.1.2.2.2.2.2.1, y.2.2.1.2.2.2.2.2.2.1, y.2.2.1.2.2.2.2.2.2.2.1), y.2.2.2.1.1)) fun y => T.ret y) (T.ret false))) T.fail) T.fail) T.fail) T.fail)) (T.ite (exEq y.1 Ex.ret) (T.ret y.2.1) T.fail)) (T.ite (exEq y.1 Ex.ret) (T.ret y.2.2.1) T.fail))
noncomputable def law47_BuildMakes (x : ((Int × Int × Int) × (Int × Int × Int) × (Int × Int × Int) × Int × Int × Int) × (List (Int × Int × Int × Int × (Int × Int × Int) × (Int × Int × Int) × ((Int × Int × Int) × (Int × Int × Int) × (Int × Int × Int) × Int × Int × Int) × ((Int × Int × Int) × (Int × Int × Int) × Int) × List (Int × Int × Int)))) : Option (Bool) := (law47_BuildMakes.t x).run
noncomputable def law47_BuildMakes.q : List AV → T AV := entry [TCam, (.sl (.st (.pair TI (.pair TI (.pair TI (.pair TI (.pair TP (.pair TP (.pair TMove (.pair TMatD (.sl TP)))))))))))] (outR [.bool]) fun x => .opt (law47_BuildMakes x) .ret
theorem law47_BuildMakes.ok : FnOK Tryz.prog 3 law47_BuildMakes.q :=
  entry_call (ps := [TCam, (.sl (.st (.pair TI (.pair TI (.pair TI (.pair TI (.pair TP (.pair TP (.pair TMove (.pair TMatD (.sl TP)))))))))))]) (rs := [.bool]) (F := (dpZ Tryz.prog (ext (ext (ext (ext (ext (ext (ext (ext (ext (ext (ext (ext (ext (ext (ext Xs 5 law47_awake.q) 7 build_Builder_Things.q) 8 build_Builder_Tris.q) 9 law47_Made_first.q) 13 fault_Is.q) 14 ref22_Same.q) 35 build_shape.q) 36 xform_Mesh.q) 37 mesh_Tris.q) 22 fault_New.q) 19 law47_Made_shine.q) 21 law47_Made_put.q) 75 scene_lights_1.q) 86 scene_within_1.q) 92 xform_dot_1.q) law47_BuildMakes.deeps [6] law47_BuildMakes.tabl 100 8)) (D := (inL law47_BuildMakes.deeps.D)) (S := tabS [(0, loopS law47_BuildMakes.L0 129 0 [.exit 0, .ret] law47_BuildMakes.l0), (2, loopS law47_BuildMakes.L2 129 2 [.exit 2, .ret] law47_BuildMakes.l2)]) (t := law47_BuildMakes.t) mixed (dpZ_ok mixed (quiet_ext (quiet_ext (quiet_ext (quiet_ext (quiet_ext (quiet_ext (quiet_ext (quiet_ext (quiet_ext (quiet_ext (quiet_ext (quiet_ext (quiet_ext (quiet_ext (quiet_ext Xok law47_awake.ok) build_Builder_Things.ok) build_Builder_Tris.ok) law47_Made_first.ok) fault_Is.ok) ref22_Same.ok) build_shape.ok) xform_Mesh.ok) mesh_Tris.ok) fault_New.ok) law47_Made_shine.ok) law47_Made_put.ok) scene_lights_1.ok) scene_within_1.ok) xform_dot_1.ok) law47_BuildMakes.deepsOk [6] law47_BuildMakes.tablOk 100 8).1 (dpZ_ok mixed (quiet_ext (quiet_ext (quiet_ext (quiet_ext (quiet_ext (quiet_ext (quiet_ext (quiet_ext (quiet_ext (quiet_ext (quiet_ext (quiet_ext (quiet_ext (quiet_ext (quiet_ext Xok law47_awake.ok) build_Builder_Things.ok) build_Builder_Tris.ok) law47_Made_first.ok) fault_Is.ok) ref22_Same.ok) build_shape.ok) xform_Mesh.ok) mesh_Tris.ok) fault_New.ok) law47_Made_shine.ok) law47_Made_put.ok) scene_lights_1.ok) scene_within_1.ok) xform_dot_1.ok) law47_BuildMakes.deepsOk [6] law47_BuildMakes.tablOk 100 8).2 Tryz.func3 (by kernel_rfl) (sok_fn ⟨law47_BuildMakes.k0, law47_BuildMakes.k2, trivial⟩) (by kernel_rfl) (fun x => by kernel_rfl)
end Go.Proofs.Pen

namespace Go.Proofs.Pen
open Go Go.Proofs

theorem RShape_l0 (m : Msh) (hl : m.2.length ≤ 900) : ref47_Shape.l0 (([], []), m, (m.1, [], ()), 0, ()) = some (.exit 0, ([], []), m, (m.1, m.2.map turnF, ()), (m.2.length : Int), ()) := by
  have key := iter_count (t := ref47_Shape.t0) (fun i => (([], []), m, (m.1, (m.2.take i).map turnF, ()), (i : Int), ())) (e := .exit 0) (z := (([], []), m, (m.1, (m.2.take m.2.length).map turnF, ()), (m.2.length : Int), ())) (by simp) m.2.length 0 rounds
    (fun i _ hi => by
      have hi : i < m.2.length := by omega
      have hlen : ((m.2.take i).map turnF).length ≤ 1000 := by rw [List.length_map, List.length_take]; omega
      unfold ref47_Shape.t0
      dsimp only
      rw [tr_yes (by simp; omega), tr_opt, lget_nat _ hi, Option.bind_some, tr_yes (decide_eq_true (room (by omega) (by omega))), tr_ret, W_succ (by omega), take_all, show [(m.2[i].1, m.2[i].2.2, m.2[i].2.1)] = [turnF m.2[i]] from rfl, map_takeS _ _ hi])
    (by
      unfold ref47_Shape.t0
      dsimp only
      rw [Nat.zero_add, tr_no (by simp), tr_ret, List.take_length, List.take_length])
    (rounds_gt (by omega))
  simp only [List.take_zero, List.map_nil, List.take_length] at key
  exact key

theorem RShape_eq (k : Int) (s : P3) : ref47_Shape (k, s) = some (shapeV k s) := by
  unfold ref47_Shape ref47_Shape.t shapeV
  dsimp only
  rw [tr_ite]
  by_cases h3 : k = 3
  · rw [if_pos (by simpa using h3), if_pos h3, tr_no (by simp; omega), tr_ite]
    by_cases hp : panOK s
    · rw [if_neg (by unfold panOK at hp; simp; omega), tr_yes (by simpa using h3), tr_ret, if_pos hp]
      rfl
    · rw [if_pos (by unfold panOK at hp; simp; omega), tr_ret, if_neg hp]
  rw [if_neg (by simpa using h3), if_neg h3, tr_ite]
  by_cases hr : k < 1 ∨ k > 3
  · rw [if_pos (by simpa using hr), tr_ret, if_neg (by omega), if_neg (by omega)]
  rw [if_neg (by simpa using hr), tr_ite]
  have hc : (!(decide (s.1 ≥ 1) && decide (s.1 ≤ 1048576) && decide (s.2.1 ≥ 1) && decide (s.2.1 ≤ 1048576) && decide (s.2.2 ≥ 1) && decide (s.2.2 ≤ 1048576))) = !decide (boxOK s) := by
    congr 1
    rw [Bool.eq_iff_iff, show (decide (boxOK s) = true) ↔ boxOK s from decide_eq_true_iff]
    unfold boxOK
    simp only [Bool.and_eq_true, decide_eq_true_eq]
    omega
  rw [hc]
  by_cases hb : boxOK s
  · rw [if_neg (by simpa using hb), tr_no (by simpa using h3), tr_opt, RBox_eq hb, Option.bind_some, tr_ite]
    by_cases h1 : k = 1
    · rw [if_pos (by simpa using h1), tr_ret, if_neg (by omega), if_pos h1, if_pos hb]
    · rw [if_neg (by simpa using h1), tr_opt, RShape_l0 _ (by simp [boxM, boxF]), Option.bind_some]
      dsimp only
      rw [tr_yes (by rfl), tr_ret, List.take_length, if_pos (show k = 2 by omega), if_pos hb]
  · rw [if_pos (by simpa using hb), tr_ret]
    by_cases h2 : k = 2
    · rw [if_pos h2, if_neg hb]
    · rw [if_neg h2, if_pos (show k = 1 by omega), if_neg hb]

def movV (m : Mv) (x : Msh) : Msh × Int := if right m then (mapM (app m) x, chk (mapM (app m) x)) else (([], []), 3)

theorem RMoved_eq (m : Mv) {x : Msh} (hx : chk x = 0) : ref47_Moved (m, x) = some (movV m x) := by
  obtain ⟨h1, h2, h3, _, _⟩ := chk_zero.1 hx
  unfold ref47_Moved ref47_Moved.t movV
  dsimp only
  rw [tr_opt, Right_eq, Option.bind_some, tr_ite]
  by_cases hm : right m
  case neg => rw [if_pos (by simpa using hm), if_neg hm, tr_ret]
  rw [if_neg (by simpa using hm), if_pos hm]
  have key := iter_count (t := ref47_Moved.t0) (fun i => (m, x, ([], []), ((x.1.take i).map (app m), x.2, ()), (i : Int), ())) (e := .exit 0) (z := (m, x, ([], []), ((x.1.take x.1.length).map (app m), x.2, ()), (x.1.length : Int), ())) (by simp) x.1.length 0 rounds
    (fun i _ hi => by
      have hi : i < x.1.length := by omega
      have hb : bdd 1048576 x.1[i] := of_decide_eq_true (List.all_eq_true.1 h3 _ (List.getElem_mem hi))
      have hlen : ((x.1.take i).map (app m)).length ≤ 2000 := by rw [List.length_map, List.length_take]; omega
      unfold ref47_Moved.t0
      dsimp only
      rw [tr_yes (by simp; omega), tr_opt, lget_nat _ hi, Option.bind_some, tr_opt, RApply_eq hm hb, Option.bind_some, tr_yes (decide_eq_true (room (by omega) (by omega))), tr_ret, W_succ (by omega), take_all, map_takeS _ _ hi])
    (by
      unfold ref47_Moved.t0
      dsimp only
      rw [Nat.zero_add, tr_no (by simp), tr_ret, List.take_length, List.take_length])
    (rounds_gt (by omega))
  simp only [List.take_zero, List.map_nil, List.take_length] at key
  have e0 : ref47_Moved.l0 (m, x, ([], []), ([], x.2, ()), 0, ()) = _ := key
  rw [tr_opt, e0, Option.bind_some]
  dsimp only
  rw [tr_yes (by rfl), tr_opt, ref45_Check_eq, Option.bind_some, tr_ret, List.take_length]
  rfl

theorem XMesh_mov (m : Mv) {x : Msh} (hx : chk x = 0) : ∃ q, xform_Mesh (m, x) = some q ∧ q.2 = (movV m x).2 ∧ (q.2 = 0 → q.1 = (movV m x).1 ∧ chk q.1 = 0) := by
  rw [XMesh_eq, if_neg (by simpa using hx)]
  unfold movV
  by_cases hm : right m
  · rw [if_neg (by simpa using hm), if_pos hm]
    by_cases hc : chk (mapM (app m) x) = 0
    · rw [if_neg (by simpa using hc)]
      exact ⟨_, rfl, hc.symm, fun _ => ⟨rfl, hc⟩⟩
    · rw [if_pos hc]
      exact ⟨_, rfl, rfl, fun h => absurd h hc⟩
  · rw [if_pos hm, if_neg hm]
    exact ⟨_, rfl, rfl, fun h => by cases h⟩

/-! ### What the document makes of a call -/
abbrev MadeT := ScT × List Int × List Bool
abbrev ActT := Int × Int × Int × Int × P3 × P3 × Mv × MatT × List P3

theorem put_l0 (x : MadeT) (a : ActT) (y : Msh) (hy : chk y = 0) (hT : x.1.2.1.length ≤ 512) :
    law47_Made_put.l0 (x, a, (([], [], [], 0, [], ((0, 0, 0), (0, 0, 0), (0, 0, 0), 0, 0, 0), 0, 0), [], []), y, (x.1.1, x.1.2.1, x.1.2.2.1, x.1.2.2.2.1, x.1.2.2.2.2.1, x.1.2.2.2.2.2.1, x.1.2.2.2.2.2.2.1, x.1.2.2.2.2.2.2.2, x.2.1, x.2.2, ()), 0, ()) =
      some (.exit 0, x, a, (([], [], [], 0, [], ((0, 0, 0), (0, 0, 0), (0, 0, 0), 0, 0, 0), 0, 0), [], []), y, (x.1.1, x.1.2.1 ++ y.2.map (triOf y.1 a.2.2.1), x.1.2.2.1, x.1.2.2.2.1, x.1.2.2.2.2.1, x.1.2.2.2.2.2.1, x.1.2.2.2.2.2.2.1, x.1.2.2.2.2.2.2.2, x.2.1, x.2.2, ()), (y.2.length : Int), ()) := by
  obtain ⟨h1, h2, h3, h4, _⟩ := chk_zero.1 hy
  have key := iter_count (t := law47_Made_put.t0) (fun i => (x, a, (([], [], [], 0, [], ((0, 0, 0), (0, 0, 0), (0, 0, 0), 0, 0, 0), 0, 0), [], []), y, (x.1.1, x.1.2.1 ++ (y.2.take i).map (triOf y.1 a.2.2.1), x.1.2.2.1, x.1.2.2.2.1, x.1.2.2.2.2.1, x.1.2.2.2.2.2.1, x.1.2.2.2.2.2.2.1, x.1.2.2.2.2.2.2.2, x.2.1, x.2.2, ()), (i : Int), ())) (e := .exit 0)
    (z := (x, a, (([], [], [], 0, [], ((0, 0, 0), (0, 0, 0), (0, 0, 0), 0, 0, 0), 0, 0), [], []), y, (x.1.1, x.1.2.1 ++ (y.2.take y.2.length).map (triOf y.1 a.2.2.1), x.1.2.2.1, x.1.2.2.2.1, x.1.2.2.2.2.1, x.1.2.2.2.2.2.1, x.1.2.2.2.2.2.2.1, x.1.2.2.2.2.2.2.2, x.2.1, x.2.2, ()), (y.2.length : Int), ())) (by simp) y.2.length 0 rounds
    (fun i _ hi => by
      have hi : i < y.2.length := by omega
      have hp : pl y.1.length y.2[i] := of_decide_eq_true (List.all_eq_true.1 h4 _ (List.getElem_mem hi))
      unfold pl at hp
      have hlen : (x.1.2.1 ++ (y.2.take i).map (triOf y.1 a.2.2.1)).length ≤ 2000 := by rw [List.length_append, List.length_map, List.length_take]; omega
      unfold law47_Made_put.t0
      dsimp only
      rw [tr_yes (by simp; omega), tr_opt, lget_nat _ hi, Option.bind_some, tr_opt, lget_gp (by omega) (by omega), Option.bind_some, tr_opt, lget_gp (by omega) (by omega), Option.bind_some, tr_opt, lget_gp (by omega) (by omega), Option.bind_some, tr_yes (decide_eq_true (room (by omega) (by omega))), tr_ret, W_succ (by omega), take_all, List.append_assoc]
      rw [show [(gp y.1 y.2[i].1, gp y.1 y.2[i].2.1, gp y.1 y.2[i].2.2, a.2.2.1)] = [triOf y.1 a.2.2.1 y.2[i]] from rfl, map_takeS _ _ hi])
    (by
      unfold law47_Made_put.t0
      dsimp only
      rw [Nat.zero_add, tr_no (by simp), tr_ret, List.take_length, List.take_length])
    (rounds_gt (by omega))
  simp only [List.take_zero, List.map_nil, List.append_nil, List.take_length] at key
  exact key

def putS (x : MadeT) (a : ActT) (y : Msh) : MadeT :=
  ((x.1.1, x.1.2.1 ++ y.2.map (triOf y.1 a.2.2.1), x.1.2.2.1, x.1.2.2.2), x.2.1 ++ [((x.1.2.1.length + y.2.length : Nat) : Int)], x.2.2 ++ [false])

theorem put_arg {x : MadeT} {a : ActT} (h : a.2.1 < 1 ∨ a.2.1 > 3 ∨ a.2.2.1 < 0 ∨ a.2.2.1 ≥ x.1.1.length) : law47_Made_put (x, a) = some (x, 0, 2) := by
  unfold law47_Made_put law47_Made_put.t
  dsimp only
  rw [tr_yes (by simp; omega), tr_ret]
theorem put_shape {x : MadeT} {a : ActT} (h : ¬ (a.2.1 < 1 ∨ a.2.1 > 3 ∨ a.2.2.1 < 0 ∨ a.2.2.1 ≥ x.1.1.length)) (hs : (shapeV a.2.1 a.2.2.2.2.1).2 ≠ 0) : law47_Made_put (x, a) = some (x, 0, (shapeV a.2.1 a.2.2.2.2.1).2) := by
  unfold law47_Made_put law47_Made_put.t
  dsimp only
  rw [tr_no (by simp; omega), tr_opt, RShape_eq, Option.bind_some, tr_yes (by simpa using hs), tr_ret]
theorem put_mov {x : MadeT} {a : ActT} (h : ¬ (a.2.1 < 1 ∨ a.2.1 > 3 ∨ a.2.2.1 < 0 ∨ a.2.2.1 ≥ x.1.1.length)) (hs : (shapeV a.2.1 a.2.2.2.2.1).2 = 0) (hm : (movV a.2.2.2.2.2.2.1 (shapeV a.2.1 a.2.2.2.2.1).1).2 ≠ 0) :
    law47_Made_put (x, a) = some (x, 0, (movV a.2.2.2.2.2.2.1 (shapeV a.2.1 a.2.2.2.2.1).1).2) := by
  unfold law47_Made_put law47_Made_put.t
  dsimp only
  rw [tr_no (by simp; omega), tr_opt, RShape_eq, Option.bind_some, tr_no (by simpa using hs), tr_opt, RMoved_eq _ (shape_chk hs), Option.bind_some, tr_yes (by simpa using hm), tr_ret]
theorem put_big {x : MadeT} {a : ActT} (h : ¬ (a.2.1 < 1 ∨ a.2.1 > 3 ∨ a.2.2.1 < 0 ∨ a.2.2.1 ≥ x.1.1.length)) (hs : (shapeV a.2.1 a.2.2.2.2.1).2 = 0) {y : Msh} (hy : movV a.2.2.2.2.2.2.1 (shapeV a.2.1 a.2.2.2.2.1).1 = (y, 0)) (hyl : y.2.length ≤ 512) (hT : x.1.2.1.length ≤ 512) (hb : 512 < x.1.2.1.length + y.2.length) :
    law47_Made_put (x, a) = some (x, 0, 4) := by
  unfold law47_Made_put law47_Made_put.t
  dsimp only
  rw [tr_no (by simp; omega), tr_opt, RShape_eq, Option.bind_some, tr_no (by simpa using hs), tr_opt, RMoved_eq _ (shape_chk hs), Option.bind_some, hy, tr_no (by rfl)]
  dsimp only
  rw [W_id (by omega) (by omega), tr_yes (by simp; omega), tr_ret]
theorem put_ok {x : MadeT} {a : ActT} (h : ¬ (a.2.1 < 1 ∨ a.2.1 > 3 ∨ a.2.2.1 < 0 ∨ a.2.2.1 ≥ x.1.1.length)) (hs : (shapeV a.2.1 a.2.2.2.2.1).2 = 0) {y : Msh} (hy : movV a.2.2.2.2.2.2.1 (shapeV a.2.1 a.2.2.2.2.1).1 = (y, 0)) (hyc : chk y = 0) (hT : x.1.2.1.length ≤ 512) (hb : ¬ 512 < x.1.2.1.length + y.2.length) (hE : x.2.1.length ≤ 900) (hL : x.2.2.length ≤ 900) :
    law47_Made_put (x, a) = some (putS x a y, (x.2.1.length : Int), 0) := by
  unfold law47_Made_put law47_Made_put.t
  dsimp only
  rw [tr_no (by simp; omega), tr_opt, RShape_eq, Option.bind_some, tr_no (by simpa using hs), tr_opt, RMoved_eq _ (shape_chk hs), Option.bind_some, hy, tr_no (by rfl)]
  dsimp only
  rw [W_id (by omega) (by omega), tr_no (by simp; omega)]
  simp only [Nat.zero_add, List.take_zero, List.nil_append, List.take_length]
  rw [tr_yes (decide_eq_true (show x.1.2.1.length * 80 ≤ most by unfold most; omega)), tr_opt, put_l0 x a y hyc hT, Option.bind_some]
  dsimp only
  simp only [take_snoc]
  rw [tr_yes (by rfl), tr_yes (decide_eq_true (show x.2.1.length * 8 ≤ most by unfold most; omega)), tr_yes (decide_eq_true (show (x.2.1.length + 1) * 8 ≤ most by unfold most; omega)), tr_yes (decide_eq_true (show x.2.2.length * 1 ≤ most by unfold most; omega)), tr_yes (decide_eq_true (show (x.2.2.length + 1) * 1 ≤ most by unfold most; omega)), tr_ret]
  unfold putS
  rw [List.length_append, List.length_map]

/-! ### Shining -/
def prevE (ends : List Int) (k : Nat) : Int := if k = 0 then 0 else ends.getD (k - 1) 0
def newL (f n : Nat) (p : W3) : List LitT := (List.range n).map fun j => (((f + j : Nat) : Int), p)

theorem gd {α : Type} {l : List α} {k : Nat} {d : α} (h : k < l.length) : l.getD k d = l[k] := by rw [List.getD_eq_getElem?_getD, List.getElem?_eq_getElem h, Option.getD_some]

theorem first_eq (x : MadeT) {k : Nat} (hk : k < x.2.1.length) (hl : x.2.1.length ≤ 900) : law47_Made_first (x, (k : Int)) = some (prevE x.2.1 k) := by
  unfold law47_Made_first law47_Made_first.t prevE
  dsimp only
  rw [tr_ite]
  by_cases h0 : k = 0
  · rw [if_pos (by simp [h0]), if_pos h0, tr_ret]
  · rw [if_neg (by simp [h0]), if_neg h0, W_id (by omega) (by omega), show (k : Int) - 1 = ((k - 1 : Nat) : Int) by omega, tr_opt, lget_nat _ (by omega), Option.bind_some, tr_ret, gd (by omega)]

def shineS (x : MadeT) (k : Nat) (L : List LitT) : MadeT := ((x.1.1, x.1.2.1, x.1.2.2.1 ++ L, x.1.2.2.2), x.2.1, x.2.2.set k true)

theorem shine_none {x : MadeT} {a : ActT} (h : a.2.2.2.1 < 0 ∨ a.2.2.2.1 ≥ x.2.1.length) : law47_Made_shine (x, a) = some (x, 8) := by
  unfold law47_Made_shine law47_Made_shine.t
  dsimp only
  rw [tr_yes (by simp; omega), tr_ret]
theorem shine_lit {x : MadeT} {a : ActT} {k : Nat} (hk : a.2.2.2.1 = k) (h1 : k < x.2.1.length) (h2 : k < x.2.2.length) (h3 : x.2.2[k] = true) : law47_Made_shine (x, a) = some (x, 2) := by
  unfold law47_Made_shine law47_Made_shine.t
  dsimp only
  rw [hk, tr_no (by simp; omega), tr_opt, lget_nat _ h2, Option.bind_some, h3, tr_yes rfl, tr_ret]
theorem shine_ok {x : MadeT} {a : ActT} {k f t : Nat} (hk : a.2.2.2.1 = k) (h1 : k < x.2.1.length) (h2 : k < x.2.2.length) (h3 : x.2.2[k] = false) (hE : x.2.1.length ≤ 900) (hB : x.2.2.length ≤ 900) (hL : x.1.2.2.1.length ≤ 900)
    (hf : prevE x.2.1 k = f) (ht : x.2.1.getD k 0 = t) (hft : f ≤ t) (ht5 : t ≤ 512) : law47_Made_shine (x, a) = some (shineS x k (newL f (t - f) a.2.2.2.2.2.1), 0) := by
  have hEk : lget x.2.1 (k : Int) = some (t : Int) := by rw [lget_nat _ h1, ← gd h1 (d := 0), ht]
  have key := iter_count (t := law47_Made_shine.t0) (fun j => (x, a, (([], [], [], 0, [], ((0, 0, 0), (0, 0, 0), (0, 0, 0), 0, 0, 0), 0, 0), [], []), (x.1.1, x.1.2.1, x.1.2.2.1 ++ newL f j a.2.2.2.2.2.1, x.1.2.2.2.1, x.1.2.2.2.2.1, x.1.2.2.2.2.2.1, x.1.2.2.2.2.2.2.1, x.1.2.2.2.2.2.2.2, x.2.1, x.2.2.set k true, ()), ((f + j : Nat) : Int), ())) (e := .exit 0)
    (z := (x, a, (([], [], [], 0, [], ((0, 0, 0), (0, 0, 0), (0, 0, 0), 0, 0, 0), 0, 0), [], []), (x.1.1, x.1.2.1, x.1.2.2.1 ++ newL f (t - f) a.2.2.2.2.2.1, x.1.2.2.2.1, x.1.2.2.2.2.1, x.1.2.2.2.2.2.1, x.1.2.2.2.2.2.2.1, x.1.2.2.2.2.2.2.2, x.2.1, x.2.2.set k true, ()), (t : Int), ())) (by simp) (t - f) 0 rounds
    (fun j _ hj => by
      have hn : newL f (j + 1) a.2.2.2.2.2.1 = newL f j a.2.2.2.2.2.1 ++ [(((f + j : Nat) : Int), a.2.2.2.2.2.1)] := by
        unfold newL
        rw [List.range_succ, List.map_append]; rfl
      have hlen : (x.1.2.2.1 ++ newL f j a.2.2.2.2.2.1).length ≤ 3000 := by unfold newL; rw [List.length_append, List.length_map, List.length_range]; omega
      unfold law47_Made_shine.t0
      dsimp only
      rw [hk, tr_opt, hEk, Option.bind_some, tr_yes (by simp; omega), tr_yes (decide_eq_true (room (by omega) (by omega))), tr_ret, W_succ (by omega), hn, take_all, List.take_length, List.append_assoc]
      rfl)
    (by
      unfold law47_Made_shine.t0
      dsimp only
      rw [hk, tr_opt, hEk, Option.bind_some, Nat.zero_add, tr_no (by simp; omega), tr_ret, show f + (t - f) = t by omega, List.take_length, List.take_length])
    (rounds_gt (by omega))
  have n0 : newL f 0 a.2.2.2.2.2.1 = [] := rfl
  simp only [n0, List.append_nil, Nat.add_zero] at key
  have hsl : List.take x.2.2.length (x.2.2.set k true) = x.2.2.set k true := List.take_of_length_le (by rw [List.length_set]; exact Nat.le_refl _)
  unfold law47_Made_shine law47_Made_shine.t
  dsimp only
  simp only [Nat.zero_add, List.take_zero, List.nil_append, List.take_length]
  rw [hk, tr_no (by simp; omega), tr_opt, lget_nat _ h2, Option.bind_some, h3, tr_no rfl, tr_yes (decide_eq_true (show x.2.2.length * 1 ≤ most by unfold most; omega)), tr_yes (by simp; omega), tr_opt, Int.toNat_natCast, List.getElem?_eq_getElem h2, Option.bind_some,
    tr_yes (decide_eq_true (show x.1.2.2.1.length * 32 ≤ most by unfold most; omega)), tr_opt, first_eq x h1 hE, Option.bind_some, hf, hsl, tr_opt]
  have e0 : law47_Made_shine.l0 (x, a, (([], [], [], 0, [], ((0, 0, 0), (0, 0, 0), (0, 0, 0), 0, 0, 0), 0, 0), [], []), (x.1.1, x.1.2.1, x.1.2.2.1, x.1.2.2.2.1, x.1.2.2.2.2.1, x.1.2.2.2.2.2.1, x.1.2.2.2.2.2.2.1, x.1.2.2.2.2.2.2.2, x.2.1, x.2.2.set k true, ()), (f : Int), ()) = _ := key
  rw [e0, Option.bind_some]
  dsimp only
  rw [tr_yes (by rfl), tr_ret]
  rfl
end Go.Proofs.Pen

namespace Go.Proofs.Pen
open Go Go.Proofs

/-! ### No more lights than triangles -/
theorem sum_counts : ∀ (n : Nat) (o : List Int), ((List.range n).map fun (v : Nat) => o.count (v : Int)).sum = o.countP fun a : Int => decide (0 ≤ a) && decide (a < (n : Int))
  | 0, o => by
    rw [List.range_zero, List.map_nil, List.sum_nil, eq_comm, List.countP_eq_zero]
    intro a _
    first | (simp; done) | (simp; omega)
  | n + 1, o => by
    rw [List.range_succ, List.map_append, List.sum_append, sum_counts n o]
    simp only [List.map_cons, List.map_nil, List.sum_cons, List.sum_nil, Nat.add_zero]
    induction o with
    | nil => rfl
    | cons a o ih =>
      rw [List.countP_cons, List.countP_cons, List.count_cons, ← ih]
      by_cases h1 : 0 ≤ a ∧ a < n
      · rw [show (decide (0 ≤ a) && decide (a < (n : Int))) = true by simp; omega, show (decide (0 ≤ a) && decide (a < ((n + 1 : Nat) : Int))) = true by simp; omega, show (a == (n : Int)) = false by simp; omega]
        simp only [if_true, if_false, Bool.false_eq_true]
        omega
      · by_cases h2 : a = n
        · rw [show (decide (0 ≤ a) && decide (a < (n : Int))) = false by simp; omega, show (decide (0 ≤ a) && decide (a < ((n + 1 : Nat) : Int))) = true by simp; omega, show (a == (n : Int)) = true by simp; omega]
          simp only [if_true, if_false, Bool.false_eq_true]
          omega
        · rw [show (decide (0 ≤ a) && decide (a < (n : Int))) = false by simp; omega, show (decide (0 ≤ a) && decide (a < ((n + 1 : Nat) : Int))) = false by simp; omega, show (a == (n : Int)) = false by simp; omega]
          simp only [if_false, Bool.false_eq_true]
          omega

theorem sum_le {f : Nat → Nat} : ∀ {n : Nat}, (∀ v, v < n → f v ≤ 1) → ((List.range n).map f).sum ≤ n
  | 0, _ => Nat.le_refl _
  | n + 1, h => by
    rw [List.range_succ, List.map_append, List.sum_append]
    have h1 := sum_le (f := f) (n := n) fun v hv => h v (by omega)
    have h2 := h n (by omega)
    simp only [List.map_cons, List.map_nil, List.sum_cons, List.sum_nil, Nat.add_zero]
    omega

theorem count_once (v : Int) : ∀ l : List LitT, (l.Pairwise fun a b => a.1 ≠ b.1) → (l.map (·.1)).count v ≤ 1
  | [], _ => by simp
  | a :: l, h => by
    rw [List.pairwise_cons] at h
    rw [List.map_cons, List.count_cons]
    by_cases ha : a.1 = v
    · have : (l.map (·.1)).count v = 0 := by
        rw [List.count_eq_zero]
        intro hm
        obtain ⟨b, hb, e⟩ := List.mem_map.1 hm
        exact h.1 b hb (ha.trans e.symm)
      rw [this]
      split <;> omega
    · rw [if_neg (by simpa using ha)]
      exact count_once v l h.2

theorem lits_le {L : List LitT} {n : Nat} (hd : L.Pairwise fun a b => a.1 ≠ b.1) (hr : ∀ l ∈ L, 0 ≤ l.1 ∧ l.1 < n) : L.length ≤ n := by
  have hs := sum_counts n (L.map (·.1))
  have hc : ((L.map (·.1)).countP fun a : Int => decide (0 ≤ a) && decide (a < (n : Int))) = (L.map (·.1)).length := by
    rw [List.countP_eq_length]
    intro a ha
    obtain ⟨l, hl, rfl⟩ := List.mem_map.1 ha
    have := hr l hl
    simp; omega
  rw [hc, List.length_map] at hs
  rw [← hs]
  exact sum_le fun v _ => count_once v L hd

/-! ### A builder so far -/
structure Inv (n : Nat) (L : List LitT) (E : List Int) (B : List Bool) : Prop where
  tl : n ≤ 512
  en : B.length = E.length
  mono : E.Pairwise fun a b => a ≤ b
  rng : ∀ e ∈ E, 0 ≤ e ∧ e ≤ n
  li : ∀ l ∈ L, ∃ k, k < E.length ∧ B.getD k false = true ∧ prevE E k ≤ l.1 ∧ l.1 < E.getD k 0
  nd : L.Pairwise fun a b => a.1 ≠ b.1

theorem Inv.prev_nonneg {n : Nat} {L : List LitT} {E : List Int} {B : List Bool} (h : Inv n L E B) {k : Nat} (hk : k < E.length) : 0 ≤ prevE E k ∧ prevE E k ≤ E.getD k 0 ∧ E.getD k 0 ≤ n := by
  have h2 := h.rng _ (List.getElem_mem hk)
  rw [gd hk]
  unfold prevE
  split
  · omega
  · rw [gd (show k - 1 < E.length by omega)]
    have h1 := h.rng _ (List.getElem_mem (show k - 1 < E.length by omega))
    have h3 := List.pairwise_iff_getElem.1 h.mono (k - 1) k (by omega) hk (by omega)
    omega

theorem Inv.apart {n : Nat} {L : List LitT} {E : List Int} {B : List Bool} (h : Inv n L E B) {j k : Nat} (hjk : j < k) (hk : k < E.length) : E.getD j 0 ≤ prevE E k := by
  unfold prevE
  rw [if_neg (by omega), gd (by omega), gd (show k - 1 < E.length by omega)]
  rcases Nat.lt_or_ge j (k - 1) with hlt | hge
  · exact List.pairwise_iff_getElem.1 h.mono j (k - 1) (by omega) (by omega) hlt
  · have : j = k - 1 := by omega
    subst this
    exact Int.le_refl _

theorem Inv.lits {n : Nat} {L : List LitT} {E : List Int} {B : List Bool} (h : Inv n L E B) : L.length ≤ n := lits_le h.nd fun l hl => by
  obtain ⟨k, hk, _, h1, h2⟩ := h.li l hl
  have := h.prev_nonneg hk
  omega

theorem Inv.put {n : Nat} {L : List LitT} {E : List Int} {B : List Bool} (h : Inv n L E B) {m : Nat} (hl : n + m ≤ 512) : Inv (n + m) L (E ++ [((n + m : Nat) : Int)]) (B ++ [false]) where
  tl := hl
  en := by rw [List.length_append, List.length_append, h.en]; rfl
  mono := by
    rw [List.pairwise_append]
    refine ⟨h.mono, List.pairwise_singleton _ _, fun a ha b hb => ?_⟩
    rw [List.mem_singleton] at hb
    have := h.rng a ha
    omega
  rng e he := by
    rcases List.mem_append.1 he with he | he
    · have := h.rng e he; omega
    · rw [List.mem_singleton] at he; omega
  li l hl := by
    obtain ⟨k, hk, h1, h2, h3⟩ := h.li l hl
    refine ⟨k, by rw [List.length_append]; omega, ?_, ?_, ?_⟩
    · rw [List.getD_eq_getElem?_getD, List.getElem?_append_left (by rw [h.en]; exact hk), ← List.getD_eq_getElem?_getD]; exact h1
    · unfold prevE at h2 ⊢
      split
      · rename_i h0; rw [if_pos h0] at h2; exact h2
      · rename_i h0
        rw [if_neg h0] at h2
        rw [List.getD_eq_getElem?_getD, List.getElem?_append_left (by omega), ← List.getD_eq_getElem?_getD]; exact h2
    · rw [List.getD_eq_getElem?_getD, List.getElem?_append_left hk, ← List.getD_eq_getElem?_getD]; exact h3
  nd := h.nd

theorem Inv.shine {n : Nat} {L : List LitT} {E : List Int} {B : List Bool} (h : Inv n L E B) {k : Nat} (hk : k < E.length) (hlit : B.getD k false = false) (p : W3) {f t : Nat} (hf : prevE E k = f) (ht : E.getD k 0 = t) :
    Inv n (L ++ newL f (t - f) p) E (B.set k true) where
  tl := h.tl
  en := by rw [List.length_set]; exact h.en
  mono := h.mono
  rng := h.rng
  li l hl := by
    rcases List.mem_append.1 hl with hl | hl
    · obtain ⟨j, hj, h1, h2, h3⟩ := h.li l hl
      refine ⟨j, hj, ?_, h2, h3⟩
      rw [List.getD_eq_getElem?_getD, List.getElem?_set]
      split
      · rename_i hjk; subst hjk; rw [hlit] at h1; cases h1
      · rw [← List.getD_eq_getElem?_getD]; exact h1
    · obtain ⟨j, hj, rfl⟩ := List.mem_map.1 hl
      rw [List.mem_range] at hj
      refine ⟨k, hk, ?_, by rw [hf]; dsimp only; omega, by rw [ht]; dsimp only; omega⟩
      rw [gd (by rw [List.length_set, h.en]; exact hk), List.getElem_set_self]
  nd := by
    rw [List.pairwise_append]
    refine ⟨h.nd, ?_, fun a ha b hb => ?_⟩
    · unfold newL
      rw [List.pairwise_map]
      exact List.pairwise_lt_range.imp fun {a b} hab => by dsimp only; omega
    · obtain ⟨j, hj, rfl⟩ := List.mem_map.1 hb
      rw [List.mem_range] at hj
      obtain ⟨q, hq, h1, h2, h3⟩ := h.li a ha
      have hqk : q ≠ k := by rintro rfl; rw [hlit] at h1; cases h1
      dsimp only
      rcases Nat.lt_or_ge q k with hlt | hge
      · have := h.apart hlt hk
        omega
      · have := h.apart (show k < q by omega) hq
        omega

theorem inv0 : Inv 0 [] [] [] where
  tl := by simp
  en := rfl
  mono := .nil
  rng := by simp
  li := by simp
  nd := .nil

abbrev Bd := List MatT × List TriT × List LitT × Int × List W3 × CamT × Int × Int × List Int × List Bool × Unit

theorem each_eq (M : List MatT) (T : List TriT) (L : List LitT) (z : Int) (C : List W3) (c : CamT) (k h : Int) (E : List Int) (B : List Bool) (p : W3) (f t : Nat) (hft : f ≤ t) (ht : t ≤ 512) (hL : L.length ≤ 512) :
    eachShine.l0 ((M, T, L, z, C, c, k, h, E, B, ()), (), p, (t : Int), (f : Int), ()) = some (.exit 0, (M, T, L ++ newL f (t - f) p, z, C, c, k, h, E, B, ()), (), p, (t : Int), (t : Int), ()) := by
  have key := iter_count (t := eachShine.t0) (fun j => ((M, T, L ++ newL f j p, z, C, c, k, h, E, B, ()), (), p, (t : Int), ((f + j : Nat) : Int), ())) (e := .exit 0)
    (z := ((M, T, L ++ newL f (t - f) p, z, C, c, k, h, E, B, ()), (), p, (t : Int), (t : Int), ())) (by simp) (t - f) 0 rounds
    (fun j _ hj => by
      have hn : newL f (j + 1) p = newL f j p ++ [(((f + j : Nat) : Int), p)] := by
        unfold newL
        rw [List.range_succ, List.map_append]; rfl
      have hlen : (L ++ newL f j p).length ≤ 2000 := by unfold newL; rw [List.length_append, List.length_map, List.length_range]; omega
      unfold eachShine.t0
      dsimp only
      simp only [List.take_length, take_snoc]
      rw [tr_yes (by simp; omega), tr_yes (decide_eq_true (room (by omega) (by omega))), tr_ret, W_succ (by omega), hn, List.append_assoc]
      rfl)
    (by
      unfold eachShine.t0
      dsimp only
      simp only [List.take_length]
      rw [Nat.zero_add, tr_no (by simp; omega), tr_ret, show f + (t - f) = t by omega])
    (rounds_gt (by omega))
  have e0 : newL f 0 p = [] := rfl
  simp only [e0, List.append_nil, Nat.add_zero] at key
  exact key


theorem BTris_eq (x : MadeT) {k : Nat} (hk : k < x.2.1.length) (hl : x.2.1.length ≤ 900) : build_Builder_Tris (x, (k : Int)) = some (prevE x.2.1 k, x.2.1.getD k 0) := by
  unfold build_Builder_Tris build_Builder_Tris.t prevE
  dsimp only
  rw [tr_no (by simp), tr_no (by simp; omega), tr_ite]
  by_cases h0 : k = 0
  · subst h0
    rw [if_pos (by simp), if_pos rfl, tr_opt, show (0 : Int) = ((0 : Nat) : Int) from rfl, lget_nat _ hk, Option.bind_some, tr_ret, gd hk]
  · rw [if_neg (by simp [h0]), if_neg h0, W_id (by omega) (by omega), show (k : Int) - 1 = ((k - 1 : Nat) : Int) by omega, tr_opt, lget_nat _ (by omega), Option.bind_some, tr_opt, lget_nat _ hk, Option.bind_some, tr_ret, gd (by omega), gd hk]

def bdOf (x : MadeT) : Bd := (x.1.1, x.1.2.1, x.1.2.2.1, x.1.2.2.2.1, x.1.2.2.2.2.1, x.1.2.2.2.2.2.1, x.1.2.2.2.2.2.2.1, x.1.2.2.2.2.2.2.2, x.2.1, x.2.2, ())
structure Good2 (x : MadeT) (i : Nat) : Prop where
  inv : Inv x.1.2.1.length x.1.2.2.1 x.2.1 x.2.2
  ml : x.1.1.length ≤ i
  el : x.2.1.length ≤ i
  cl : x.1.2.2.2.2.1.length ≤ 200
end Go.Proofs.Pen

namespace Go.Proofs.Pen
open Go Go.Proofs

/-- One call. -/
theorem step_ok (l : List ActT) {i : Nat} (hi : i < l.length) (hi30 : i < 30) (x : MadeT) (h : Good2 x i) :
    ∃ x', Good2 x' (i + 1) ∧ x'.1.2.2.2.2.2 = x.1.2.2.2.2.2 ∧ (law47_BuildMakes.t0 (l, false, bdOf x, x, (i : Int), ())).run = some (.normal, l, false, bdOf x', x', ((i + 1 : Nat) : Int), ()) := by
  have hinv := h.inv
  have hLl := hinv.lits
  have hTl := hinv.tl
  have hBl := hinv.en
  have hml := h.ml
  have hel := h.el
  have hcl := h.cl
  have h' : Good2 x (i + 1) := ⟨hinv, by omega, by omega, hcl⟩
  unfold law47_BuildMakes.t0 bdOf
  dsimp only
  rw [tr_yes (by simp; omega), tr_opt, lget_nat _ hi, Option.bind_some, W_succ (by omega)]
  simp only [List.take_length, Nat.zero_add, List.take_zero, List.nil_append, take_snoc]
  have same : ∃ x', Good2 x' (i + 1) ∧ x'.1.2.2.2.2.2 = x.1.2.2.2.2.2 ∧ (some (Ex.normal, l, false, bdOf x, x, ((i + 1 : Nat) : Int), ()) : Option (Ex × List ActT × Bool × Bd × MadeT × Int × Unit)) = some (.normal, l, false, bdOf x', x', ((i + 1 : Nat) : Int), ()) := ⟨x, h', rfl, rfl⟩
  unfold bdOf at same
  rw [tr_ite]
  by_cases hc2 : decide ((l[i].2.2.2.2.2.2.2.2.length : Int) > 200) = true
  · rw [if_pos hc2, tr_ret]
    exact same
  rw [if_neg hc2, tr_opt, Option.bind_some, tr_ite]
  generalize l[i] = a at hc2
  have hc2 : a.2.2.2.2.2.2.2.2.length ≤ 200 := by simp at hc2; omega
  by_cases h3 : (a.1 == 3) = true
  · rw [if_pos h3, tr_yes (decide_eq_true (show x.1.1.length * 56 ≤ most by unfold most; omega)), tr_yes (decide_eq_true (show (x.1.1.length + 1) * 56 ≤ most by unfold most; omega)), tr_yes (decide_eq_true (show (x.1.1.length + 1) * 56 ≤ most by unfold most; omega)), W_id (by omega) (by omega), tr_no (by first | (simp; done) | (simp; omega)), tr_no (by simp), tr_ret]
    exact ⟨((x.1.1 ++ [a.2.2.2.2.2.2.2.1], x.1.2), x.2), ⟨hinv, by dsimp only; rw [List.length_append, List.length_singleton]; omega, by dsimp only; omega, hcl⟩, rfl, rfl⟩
  rw [if_neg h3, tr_ite]
  by_cases h4 : (a.1 == 4) = true
  · rw [if_pos h4, tr_opt]
    by_cases hK0 : a.2.2.2.1 < 0
    · rw [shine_none (.inl hK0), Option.bind_some, tr_yes (decide_eq_true hK0), tr_no (by rfl), tr_no (by simp), tr_ret]
      exact same
    by_cases hK1 : a.2.2.2.1 ≥ (x.2.1.length : Int)
    · rw [shine_none (.inr hK1), Option.bind_some, tr_no (by simpa using hK0), tr_yes (decide_eq_true hK1), tr_no (by rfl), tr_no (by simp), tr_ret]
      exact same
    obtain ⟨k, hk⟩ : ∃ k : Nat, a.2.2.2.1 = k := ⟨a.2.2.2.1.toNat, by omega⟩
    have hkE : k < x.2.1.length := by omega
    have hkB : k < x.2.2.length := by omega
    by_cases hb : x.2.2[k] = true
    · rw [shine_lit hk hkE hkB hb, Option.bind_some, tr_no (by simpa using hK0), tr_no (by simpa using hK1), hk, tr_yes (by simp; omega), tr_opt, Int.toNat_natCast, List.getElem?_eq_getElem hkB, Option.bind_some, hb, tr_yes rfl, tr_no (by rfl), tr_no (by simp), tr_ret]
      exact same
    have hb : x.2.2[k] = false := by simpa using hb
    have hpn := hinv.prev_nonneg hkE
    obtain ⟨t, ht⟩ : ∃ t : Nat, x.2.1.getD k 0 = t := ⟨(x.2.1.getD k 0).toNat, by omega⟩
    obtain ⟨f, hf⟩ : ∃ f : Nat, prevE x.2.1 k = f := ⟨(prevE x.2.1 k).toNat, by omega⟩
    have hsl : List.take x.2.2.length (x.2.2.set k true) = x.2.2.set k true := List.take_of_length_le (by rw [List.length_set]; exact Nat.le_refl _)
    rw [shine_ok hk hkE hkB hb (by omega) (by omega) (by omega) hf ht (by omega) (by omega), Option.bind_some, tr_no (by simpa using hK0), tr_no (by simpa using hK1), hk, tr_yes (by simp; omega), tr_opt, Int.toNat_natCast, List.getElem?_eq_getElem hkB, Option.bind_some, hb, tr_no rfl, tr_yes (by simp; omega), tr_opt, Option.bind_some, hsl, tr_opt,
      BTris_eq ((x.1.1, x.1.2.1, x.1.2.2.1, x.1.2.2.2.1, x.1.2.2.2.2.1, x.1.2.2.2.2.2.1, x.1.2.2.2.2.2.2.1, x.1.2.2.2.2.2.2.2), x.2.1, x.2.2.set k true) hkE (by dsimp only; omega), Option.bind_some]
    dsimp only
    rw [hf, ht, tr_opt, each_eq x.1.1 x.1.2.1 x.1.2.2.1 _ _ _ _ _ _ _ _ f t (by omega) (by omega) (by omega), Option.bind_some]
    dsimp only
    rw [tr_yes (by rfl), tr_no (by rfl), tr_no (by simp [shineS]), tr_ret]
    exact ⟨shineS x k (newL f (t - f) a.2.2.2.2.2.1), ⟨hinv.shine hkE (by rw [gd hkB]; exact hb) _ hf ht, by dsimp only [shineS]; omega, by dsimp only [shineS]; omega, hcl⟩, rfl, rfl⟩
  rw [if_neg h4, tr_ite]
  by_cases h5 : (a.1 == 5) = true
  · rw [if_pos h5, tr_ite]
    generalize hn : a.2.2.2.2.2.2.2.2.length = n at hc2
    by_cases hn0 : n = 0
    · rw [if_pos (by simp [hn0]), tr_yes (by simp [hn0]), tr_no (by rfl), tr_no (by simp), tr_ret]
      exact same
    have hq : (n : Int).tdiv 8 = ((n / 8 : Nat) : Int) := by rw [Int.tdiv_eq_ediv_of_nonneg (by omega)]; omega
    have hr : (n : Int).tmod 8 = ((n % 8 : Nat) : Int) := by rw [Int.tmod_eq_emod_of_nonneg (by omega)]; omega
    rw [if_neg (by simp [hn0]), hq, hr, W_id (n := ((n / 8 : Nat) : Int)) (by omega) (by omega), tr_ite]
    by_cases hbad : n % 8 ≠ 0 ∨ 128 < n
    · rw [if_pos (by simp; omega), tr_no (by simp [hn0]), tr_yes (by simp; omega), tr_no (by rfl), tr_no (by simp), tr_ret]
      exact same
    rw [if_neg (by simp; omega), tr_ite]
    by_cases hz : decide (x.1.2.2.2.1 > 0) = true
    · rw [if_pos hz, tr_no (by simp [hn0]), tr_no (by simp; omega), tr_yes hz, tr_no (by rfl), tr_no (by simp), tr_ret]
      exact same
    rw [if_neg hz, tr_yes (decide_eq_true (show n * 24 ≤ most by unfold most; omega)), tr_no (by simp [hn0]), tr_no (by simp; omega), tr_no (by simpa using hz), tr_no (by rfl), tr_no (by simp), tr_ret]
    rw [← hn]
    exact ⟨((x.1.1, x.1.2.1, x.1.2.2.1, ((a.2.2.2.2.2.2.2.2.length / 8 : Nat) : Int), a.2.2.2.2.2.2.2.2, x.1.2.2.2.2.2), x.2), ⟨hinv, by dsimp only; omega, by dsimp only; omega, by dsimp only; omega⟩, rfl, rfl⟩
  rw [if_neg h5, tr_ite]
  by_cases h6 : a.2.1 < 1 ∨ a.2.1 > 3 ∨ a.2.2.1 < 0
  · rw [if_pos (by simp; omega), tr_opt, put_arg (by omega), Option.bind_some, tr_no (by rfl), tr_no (by simp), tr_ret]
    exact same
  rw [if_neg (by simp; omega), tr_ite]
  by_cases h7 : a.2.2.1 ≥ (x.1.1.length : Int)
  · rw [if_pos (decide_eq_true h7), tr_opt, put_arg (by omega), Option.bind_some, tr_no (by rfl), tr_no (by simp), tr_ret]
    exact same
  have hcond : ¬ (a.2.1 < 1 ∨ a.2.1 > 3 ∨ a.2.2.1 < 0 ∨ a.2.2.1 ≥ x.1.1.length) := by omega
  rw [if_neg (by simpa using h7), tr_opt, shape_eq, Option.bind_some, tr_ite]
  by_cases hs : (shapeV a.2.1 a.2.2.2.2.1).2 = 0
  case neg =>
    rw [if_neg (by simpa using hs), tr_yes (by simpa using hs), tr_opt, put_shape hcond hs, Option.bind_some, tr_no (by simp), tr_no (by simp), tr_ret]
    exact same
  obtain ⟨q, hq, hq2, hq3⟩ := XMesh_mov a.2.2.2.2.2.2.1 (shape_chk hs)
  rw [if_pos (by simpa using hs), tr_opt, hq, Option.bind_some, tr_ite]
  by_cases hq0 : q.2 = 0
  case neg =>
    rw [if_pos (by simpa using hq0), tr_opt, put_mov hcond hs (by rw [← hq2]; exact hq0), Option.bind_some, hq2, tr_no (by simp), tr_no (by simp), tr_ret]
    exact same
  obtain ⟨e1, hyc⟩ := hq3 hq0
  have hy : movV a.2.2.2.2.2.2.1 (shapeV a.2.1 a.2.2.2.2.1).1 = (q.1, 0) := by rw [e1, ← hq0, hq2]
  obtain ⟨c1, _⟩ := chk_zero.1 hyc
  rw [if_neg (by simpa using hq0), W_id (by omega) (by omega), tr_ite]
  by_cases hbig : 512 < x.1.2.1.length + q.1.2.length
  · rw [if_pos (by simp; omega), tr_opt, put_big hcond hs hy c1 hTl hbig, Option.bind_some, tr_no (by rfl), tr_no (by simp), tr_ret]
    exact same
  rw [if_neg (by simp; omega), tr_opt, Tris_eq, Option.bind_some, if_neg (by simpa using hyc)]
  have hnl : (q.1.2.map (triOf q.1.1 a.2.2.1)).length = q.1.2.length := List.length_map _
  dsimp only
  rw [hnl, tr_yes (decide_eq_true (show (x.1.2.1.length + q.1.2.length) * 80 ≤ most by unfold most; omega)), tr_yes (decide_eq_true (show (x.2.1.length + 1) * 8 ≤ most by unfold most; omega)), tr_yes (decide_eq_true (show (x.2.2.length + 1) * 1 ≤ most by unfold most; omega)), tr_opt, put_ok hcond hs hy hyc hTl hbig (by omega) (by omega), Option.bind_some, W_id (by omega) (by omega), tr_no (by first | (simp; done) | (simp; omega)), tr_no (by simp [putS]), tr_ret, List.take_of_length_le (l := x.1.2.1 ++ q.1.2.map (triOf q.1.1 a.2.2.1)) (by simp)]
  refine ⟨putS x a q.1, ⟨?_, by dsimp only [putS]; omega, by dsimp only [putS]; rw [List.length_append, List.length_singleton]; omega, hcl⟩, rfl, rfl⟩
  have := hinv.put (m := q.1.2.length) (by omega)
  unfold putS
  dsimp only
  rw [List.length_append, hnl]
  exact this
end Go.Proofs.Pen

namespace Go.Proofs.Pen
open Go Go.Proofs

/-! ### Chains of faults -/
def ErrD.depth : ErrD → Nat
  | .nil => 0
  | .code _ => 1
  | .fault _ _ e => e.depth + 1

/-- It is a code, or wraps one. -/
def ErrD.has (c : Int) : ErrD → Bool
  | .nil => false
  | .code d => d == c
  | .fault d _ e => c == d || e.has c

/-- The faults, from the outermost on. -/
def mkR : List (Int × Int) → ErrD
  | [] => .nil
  | p :: l => .fault p.1 p.2 (mkR l)

theorem depth_mkR : ∀ l, (mkR l).depth = l.length
  | [] => rfl
  | p :: l => by simp [mkR, ErrD.depth, depth_mkR l]

theorem has_mkR (c : Int) : ∀ l, (mkR l).has c = l.any fun p => c == p.1
  | [] => rfl
  | p :: l => by simp [mkR, ErrD.has, has_mkR c l]


theorem is_run (c : Int) (r : Bool) : ∀ (e : ErrD) (m : Nat), e.depth < m → ∃ e', (iterT errors_is.t0 m (e, c, true, r, ())).run = some (.ret, e', c, true, e.has c, ())
  | .nil, 0, h => absurd h (Nat.not_lt_zero _)
  | .nil, m + 1, _ => ⟨_, iter_stop (by simp) rfl⟩
  | .code d, 0, h => absurd h (Nat.not_lt_zero _)
  | .code d, m + 1, _ => by
    refine ⟨.code d, iter_stop (by simp) ?_⟩
    unfold errors_is.t0
    dsimp only [ErrD.isThe, ErrD.isFault]
    rw [tr_ite]
    cases h : d == c
    · simp [h, tr_ite, tr_ret, ErrD.has]
    · simp [h, tr_ret, ErrD.has]
  | .fault d l e, 0, h => absurd h (Nat.not_lt_zero _)
  | .fault d l e, m + 1, hm => by
    have hm : e.depth < m := by simp only [ErrD.depth] at hm; omega
    by_cases h : c == d
    · refine ⟨.fault d l e, iter_stop (by simp) ?_⟩
      unfold errors_is.t0
      dsimp only [ErrD.isThe, ErrD.isFault, ErrD.onlyF, ErrD.faultC]
      simp [h, tr_ite, tr_ret, ErrD.has]
    · have h' : (c == d) = false := by simpa using h
      by_cases hn : e.isNil = true
      · refine ⟨e, iter_stop (by simp) ?_⟩
        unfold errors_is.t0
        dsimp only [ErrD.isThe, ErrD.isFault, ErrD.onlyF, ErrD.faultC, ErrD.faultE]
        have he : e = .nil := by cases e <;> simp [ErrD.isNil] at hn; rfl
        subst he
        simp [h', tr_ite, tr_ret, ErrD.has, ErrD.isNil]
      · obtain ⟨e', he⟩ := is_run c r e m hm
        refine ⟨e', ?_⟩
        have hn' : e.isNil = false := by simpa using hn
        have h0 : (errors_is.t0 (.fault d l e, c, true, r, ())).run = some (.normal, e, c, true, r, ()) := by
          unfold errors_is.t0
          dsimp only [ErrD.isThe, ErrD.isFault, ErrD.onlyF, ErrD.faultC, ErrD.faultE]
          simp [h', hn', tr_ite, tr_ret]
        rw [iter_go h0, he]
        simp only [ErrD.has, h', Bool.false_or]

theorem Is_eq (e : ErrD) (c : Int) (h : e.depth ≤ 1000) : fault_Is (e, c) = some (e.has c) := by
  have e0 : ∀ e, e.isNil = false → e.depth ≤ 1000 → errors_Is (e, c) = some (e.has c) := by
    intro e hn hd
    have h1 : errors_is (e, c, true) = some (e.has c) := by
      obtain ⟨e', he⟩ := is_run c false e rounds (rounds_gt (by omega))
      unfold errors_is errors_is.t
      dsimp only
      have hl : errors_is.l0 (e, c, true, false, ()) = some (.ret, e', c, true, e.has c, ()) := he
      rw [tr_opt, hl, Option.bind_some, tr_ite, if_pos (by rfl), tr_ret]
    unfold errors_Is errors_Is.t
    dsimp only
    rw [tr_ite, hn, if_neg (by simp), tr_opt, h1, Option.bind_some, tr_ret]
  unfold fault_Is fault_Is.t
  dsimp only
  cases e with
  | nil => rfl
  | code d => rw [tr_ite, if_pos (by rfl), tr_opt, e0 _ rfl h, Option.bind_some, tr_ret]
  | fault d l e => rw [tr_ite, if_pos (by rfl), tr_opt, e0 _ rfl h, Option.bind_some, tr_ret]

theorem mkErr_mkR (w : W3) : mkErr (some w) = mkR [(w.1, 0), (w.2.1, w.2.2)] := rfl
theorem is_wrong (w : W3) : fault_Is (mkErr (some w), w.2.1) = some true := by
  rw [mkErr_mkR, Is_eq _ _ (by rw [depth_mkR]; simp), has_mkR]
  simp

theorem Same_refl (x : ScT) (h : lightB x) : ref22_Same (x, x) = some true := by
  obtain ⟨h1, h2, h3, h4⟩ := h
  have e0 : ref22_Same.l0 (x, x, false, 0, ()) = some (.exit 0, x, x, false, (x.1.length : Int), ()) := by
    have := iter_count (t := ref22_Same.t0) (fun k => (x, x, false, (k : Int), ())) (e := .exit 0) (z := (x, x, false, (x.1.length : Int), ())) (by simp) x.1.length 0 rounds
      (fun k _ hk => by
        have hk : k < x.1.length := by omega
        unfold ref22_Same.t0
        simp only [tr_ite, tr_ret, tr_opt, decide_eq_true_eq]
        rw [if_pos (by omega), lget_nat _ hk, Option.bind_some, Option.bind_some, if_neg (by simp), W_succ (by omega)])
      (by
        unfold ref22_Same.t0
        simp only [tr_ite, tr_ret, decide_eq_true_eq]
        rw [if_neg (by omega), Nat.zero_add])
      (rounds_gt (by omega))
    exact this
  have e2 : ref22_Same.l2 (x, x, false, 0, ()) = some (.exit 2, x, x, false, (x.2.1.length : Int), ()) := by
    have := iter_count (t := ref22_Same.t2) (fun k => (x, x, false, (k : Int), ())) (e := .exit 2) (z := (x, x, false, (x.2.1.length : Int), ())) (by simp) x.2.1.length 0 rounds
      (fun k _ hk => by
        have hk : k < x.2.1.length := by omega
        unfold ref22_Same.t2
        simp only [tr_ite, tr_ret, tr_opt, decide_eq_true_eq]
        rw [if_pos (by omega), lget_nat _ hk, Option.bind_some, Option.bind_some, if_neg (by simp), W_succ (by omega)])
      (by
        unfold ref22_Same.t2
        simp only [tr_ite, tr_ret, decide_eq_true_eq]
        rw [if_neg (by omega), Nat.zero_add])
      (rounds_gt (by omega))
    exact this
  have e4 : ref22_Same.l4 (x, x, false, 0, ()) = some (.exit 4, x, x, false, (x.2.2.1.length : Int), ()) := by
    have := iter_count (t := ref22_Same.t4) (fun k => (x, x, false, (k : Int), ())) (e := .exit 4) (z := (x, x, false, (x.2.2.1.length : Int), ())) (by simp) x.2.2.1.length 0 rounds
      (fun k _ hk => by
        have hk : k < x.2.2.1.length := by omega
        unfold ref22_Same.t4
        simp only [tr_ite, tr_ret, tr_opt, decide_eq_true_eq]
        rw [if_pos (by omega), lget_nat _ hk, Option.bind_some, Option.bind_some, if_neg (by simp), W_succ (by omega)])
      (by
        unfold ref22_Same.t4
        simp only [tr_ite, tr_ret, decide_eq_true_eq]
        rw [if_neg (by omega), Nat.zero_add])
      (rounds_gt (by omega))
    exact this
  have e6 : ref22_Same.l6 (x, x, false, 0, ()) = some (.exit 6, x, x, false, (x.2.2.2.2.1.length : Int), ()) := by
    have := iter_count (t := ref22_Same.t6) (fun k => (x, x, false, (k : Int), ())) (e := .exit 6) (z := (x, x, false, (x.2.2.2.2.1.length : Int), ())) (by simp) x.2.2.2.2.1.length 0 rounds
      (fun k _ hk => by
        have hk : k < x.2.2.2.2.1.length := by omega
        unfold ref22_Same.t6
        simp only [tr_ite, tr_ret, tr_opt, decide_eq_true_eq]
        rw [if_pos (by omega), lget_nat _ hk, Option.bind_some, Option.bind_some, if_neg (by simp), W_succ (by omega)])
      (by
        unfold ref22_Same.t6
        simp only [tr_ite, tr_ret, decide_eq_true_eq]
        rw [if_neg (by omega), Nat.zero_add])
      (rounds_gt (by omega))
    exact this
  unfold ref22_Same ref22_Same.t
  dsimp only
  rw [tr_ite, if_neg (by simp), tr_opt, e0, Option.bind_some]
  dsimp only
  rw [tr_ite, if_pos (show exEq (.exit 0) (.exit 0) = true from rfl), tr_opt, e2, Option.bind_some]
  dsimp only
  rw [tr_ite, if_pos (show exEq (.exit 2) (.exit 2) = true from rfl), tr_opt, e4, Option.bind_some]
  dsimp only
  rw [tr_ite, if_pos (show exEq (.exit 4) (.exit 4) = true from rfl), tr_opt, e6, Option.bind_some]
  dsimp only
  rw [tr_ite, if_pos (show exEq (.exit 6) (.exit 6) = true from rfl), tr_ret]


theorem BM_l2 (x : MadeT) {i : Nat} (h : Good2 x i) (hi : i ≤ 30) : law47_BuildMakes.l2 (false, bdOf x, x, 0, ()) = some (.exit 2, false, bdOf x, x, (x.2.1.length : Int), ()) := by
  have hel := h.el
  have key := iter_count (t := law47_BuildMakes.t2) (fun k => (false, bdOf x, x, (k : Int), ())) (e := .exit 2) (z := (false, bdOf x, x, (x.2.1.length : Int), ())) (by simp) x.2.1.length 0 rounds
    (fun k _ hk => by
      have hk : k < x.2.1.length := by omega
      unfold law47_BuildMakes.t2 bdOf
      dsimp only
      simp only [List.take_length]
      rw [tr_yes (by simp; omega), tr_opt, BTris_eq ((x.1.1, x.1.2.1, x.1.2.2.1, x.1.2.2.2.1, x.1.2.2.2.2.1, x.1.2.2.2.2.2.1, x.1.2.2.2.2.2.2.1, x.1.2.2.2.2.2.2.2), x.2.1, x.2.2) hk (by dsimp only; omega), Option.bind_some, tr_opt, first_eq x hk (by omega), Option.bind_some]
      dsimp only
      rw [tr_no (by simp), tr_opt, lget_nat _ hk, Option.bind_some, gd hk, tr_no (by simp), tr_ret, W_succ (by omega)])
    (by
      unfold law47_BuildMakes.t2 bdOf
      dsimp only
      simp only [List.take_length]
      rw [Nat.zero_add, tr_no (by simp), tr_ret])
    (rounds_gt (by omega))
  exact key

theorem BuildMakes_law (c : CamT) (l : List ActT) : (law47_BuildMakes.t (c, l)).run = some true := by
  have loop := iter_inv (t := law47_BuildMakes.t0) (fun s => ∃ x : MadeT, ∃ i : Nat, s = (l, false, bdOf x, x, (i : Int), ()) ∧ Good2 x i ∧ i ≤ 30) (fun s => 31 - s.2.2.2.2.1.toNat)
    (fun e s => e = .exit 0 ∧ ∃ x : MadeT, ∃ i : Nat, ∃ j : Int, s = (l, false, bdOf x, x, j, ()) ∧ Good2 x i ∧ i ≤ 30)
    (by
      rintro s ⟨x, i, rfl, h, hi⟩
      by_cases hc : i < l.length ∧ i < 30
      · obtain ⟨x', h', _, hr⟩ := step_ok l hc.1 hc.2 x h
        exact ⟨_, _, hr, .inl ⟨rfl, ⟨x', i + 1, rfl, h', by omega⟩, by dsimp only; omega⟩⟩
      · refine ⟨_, _, ?_, .inr ⟨?_, rfl, x, i, (i : Int), rfl, h, hi⟩⟩
        · unfold law47_BuildMakes.t0 bdOf
          dsimp only
          rw [tr_no (by simp; omega)]
          simp only [List.take_length]
          rw [tr_ret]
        · simp)
    rounds (l, false, bdOf (([], [], [], 0, [], c, 1, 512), [], []), (([], [], [], 0, [], c, 1, 512), [], []), ((0 : Nat) : Int), ()) ⟨(([], [], [], 0, [], c, 1, 512), [], []), 0, rfl, ⟨inv0, by simp, by simp, by simp⟩, by omega⟩ (rounds_gt (by dsimp only; omega))
  obtain ⟨e, s, hr, rfl, x, i, j, rfl, h, hi⟩ := loop
  have e0 : law47_BuildMakes.l0 (l, false, ([], [], [], 0, [], c, 1, 512, [], [], ()), (([], [], [], 0, [], c, 1, 512), [], []), 0, ()) = _ := hr
  have hLl := h.inv.lits
  have hTl := h.inv.tl
  have hml := h.ml
  have hcl := h.cl
  have hl : lightB x.1 := ⟨by omega, by omega, by omega, by omega⟩
  have hx : (x.1.1, x.1.2.1, x.1.2.2.1, x.1.2.2.2.1, x.1.2.2.2.2.1, x.1.2.2.2.2.2.1, x.1.2.2.2.2.2.2.1, x.1.2.2.2.2.2.2.2) = x.1 := rfl
  unfold law47_BuildMakes.t
  dsimp only
  rw [tr_no rfl, tr_opt, e0, Option.bind_some]
  dsimp only
  rw [tr_yes (by rfl), tr_opt]
  unfold bdOf
  dsimp only
  simp only [List.take_length]
  have l2 := BM_l2 x h hi
  unfold bdOf at l2
  rw [l2, Option.bind_some]
  dsimp only
  rw [tr_yes (by rfl), tr_opt, Check_eq x.1 hl, Option.bind_some, tr_ite]
  cases hw : wr x.1 with
  | some w =>
    have hok := wr_ok hw
    rw [if_pos (by rfl), tr_opt, RCheck_eq x.1 hl, Option.bind_some, mkW_zero (fun w h => wr_ok h), hw, tr_yes (by rfl), tr_yes (by rfl), tr_yes (show ((mkErr (some w)).top == (mkW (some w)).1) = true from beq_self_eq_true w.1), tr_opt]
    show ((fault_Is (mkErr (some w), w.2.1)).bind _) = _
    rw [is_wrong, Option.bind_some, tr_yes rfl, tr_opt, Same_refl ZS lightZ, Option.bind_some, tr_ret]
  | none =>
    rw [if_neg (by simp [mkErr, ErrD.isNil]), tr_yes (decide_eq_true (small60 hl.1 (by omega))), tr_yes (decide_eq_true (small60 hl.2.1 (by omega))), tr_yes (decide_eq_true (small60 hl.2.2.1 (by omega))), tr_yes (decide_eq_true (small60 hl.2.2.2 (by omega))), tr_opt, RCheck_eq x.1 hl, Option.bind_some, mkW_zero (fun w h => wr_ok h), hw, tr_no (by rfl), tr_yes (by rfl), tr_opt, Same_refl x.1 hl, Option.bind_some, tr_ret]

theorem BuildMakes_all (x : dens [TCam, (.sl (.st (.pair TI (.pair TI (.pair TI (.pair TI (.pair TP (.pair TP (.pair TMove (.pair TMatD (.sl TP)))))))))))]) (_ : insAll [TCam, (.sl (.st (.pair TI (.pair TI (.pair TI (.pair TI (.pair TP (.pair TP (.pair TMove (.pair TMatD (.sl TP)))))))))))] x) : (law47_BuildMakes.t x).run = some true := BuildMakes_law x.1 x.2
end Go.Proofs.Pen
