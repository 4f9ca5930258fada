/- A part of the proof that the law BuildRight is true of every input: models of the functions that the law reaches, and what holds of them. -/
import Derived.Test.YtdcdmooafepbiaaPenKit0
import Derived.Test.YtdcdmooafepbiaaPenKit1
import Derived.Test.YtdcdmooafepbiaaPenKit2
import Derived.Test.YtdcdmooafepbiaaPenKit3
import Derived.Test.YtdcdmooafepbiaaPenBuildRight4
namespace Go.Proofs.Pen
open Go Go.Proofs
noncomputable def law47_BuildRight.deeps : Deeps := { D := [43, 44, 45, 46, 76, 77, 78, 79, 41, 47, 82, 48, 83, 84, 85, 86], C := [], frz := false, S := extSn (fun _ _ => noS) 78 10 (tabS eachShine.S) }
theorem law47_BuildRight.deepsOk : LoopsOK Try.prog law47_BuildRight.deeps.S := (loops_extn (loops_none _) Try.func78 eachShine.tab)
noncomputable def law47_BuildRight.tabl : DTab := (tbExt (tbExt tb 82 (freshD scene_Check.q)) 48 (freshD ref22_Check.q))
theorem law47_BuildRight.tablOk : TBOK Try.prog law47_BuildRight.tabl := (tb_ext (tb_ext tbOk (fresh_deep scene_Check.okF)) (fresh_deep ref22_Check.okF))
def law47_BuildRight.L0 : List (Nat × Lay) := [(0, .val (.sl (.st (.pair TI (.pair TI (.pair TI (.pair TI (.pair TP (.pair TP (.pair TMove (.pair TMatD (.sl TP)))))))))))), (3, .obx [.own TMatD, .own TTriD, .own TLitD, .dat TI, .own TP, .dat TCam, .dat TI, .dat TI, .own TI, .own .bool]), (4, .val TI)]
noncomputable def law47_BuildRight.t0 (x : (List (Int × Int × Int × Int × (Int × Int × Int) × (Int × Int × Int) × ((Int × Int × Int) × (Int × Int × Int) × (Int × Int × Int) × Int × Int × Int) × ((Int × Int × Int) × (Int × Int × Int) × Int) × List (Int × Int × Int))) × (List ((Int × Int × Int) × (Int × Int × Int) × Int) × List ((Int × Int × Int) × (Int × Int × Int) × (Int × Int × Int) × Int) × List (Int × Int × Int × Int) × Int × List (Int × Int × Int) × ((Int × Int × Int) × (Int × Int × Int) × (Int × Int × Int) × Int × Int × Int) × Int × Int × List Int × List Bool × Unit) × Int × Unit) : T (Ex × (List (Int × Int × Int × Int × (Int × Int × Int) × (Int × Int × Int) × ((Int × Int × Int) × (Int × Int × Int) × (Int × Int × Int) × Int × Int × Int) × ((Int × Int × Int) × (Int × Int × Int) × Int) × List (Int × Int × Int))) × (List ((Int × Int × Int) × (Int × Int × Int) × Int) × List ((Int × Int × Int) × (Int × Int × Int) × (Int × Int × Int) × Int) × List (Int × Int × Int × Int) × Int × List (Int × Int × Int) × ((Int × Int × Int) × (Int × Int × Int) × (Int × Int × Int) × Int × Int × Int) × Int × Int × List Int × List Bool × Unit) × Int × Unit) := T.ite (decide (x.2.2.1 < (↑(List.length x.1) : Int)) && decide (x.2.2.1 < (30 : Int))) (T.opt (lget x.1 x.2.2.1) fun y => T.ite (y.1 == (4 : Int)) (T.ite (decide (y.2.2.2.1 < (0 : Int))) (T.ret (Ex.normal, x.1, (List.take x.2.1.1.length x.2.1.1, List.take x.2.1.2.1.length x.2.1.2.1, List.take x.2.1.2.2.1.length x.2.1.2.2.1, x.2.1.2.2.2.1, List.take x.2.1.2.2.2.2.1.length x.2.1.2.2.2.2.1, x.2.1.2.2.2.2.2.1, x.2.1.2.2.2.2.2.2.1, x.2.1.2.2.2.2.2.2.2.1, List.take x.2.1.2.2.2.2.2.2.2.2.1.length x.2.1.2.2.2.2.2.2.2.2.1, List.take x.2.1.2.2.2.2.2.2.2.2.2.1.length x.2.1.2.2.2.2.2.2.2.2.2.1, ()), W (x.2.2.1 + (1 : Int)), ())) (T.ite (decide (y.2.2.2.1 ≥ (↑x.2.1.2.2.2.2.2.2.2.2.1.length : Int))) (T.ret (Ex.normal, x.1, (List.take x.2.1.1.length x.2.1.1, List.take x.2.1.2.1.length x.2.1.2.1, List.take x.2.1.2.2.1.length x.2.1.2.2.1, x.2.1.2.2.2.1, List.take x.2.1.2.2.2.2.1.length x.2.1.2.2.2.2.1, x.2.1.2.2.2.2.2.1, x.2.1.2.2.2.2.2.2.1, x.2.1.2.2.2.2.2.2.2.1, List.take x.2.1.2.2.2.2.2.2.2.2.1.length x.2.1.2.2.2.2.2.2.2.2.1, List.take x.2.1.2.2.2.2.2.2.2.2.2.1.length x.2.1.2.2.2.2.2.2.2.2.2.1, ()), W (x.2.2.1 + (1 : Int)), ())) (T.ite (decide ((0 : Int) ≤ y.2.2.2.1) && decide (y.2.2.2.1 < (↑x.2.1.2.2.2.2.2.2.2.2.2.1.length : Int))) (T.opt x.2.1.2.2.2.2.2.2.2.2.2.1[(0 : Nat) + Int.toNat y.2.2.2.1]? fun y_1 => T.ite y_1 (T.ret (Ex.normal, x.1, (List.take x.2.1.1.length x.2.1.1, List.take x.2.1.2.1.length x.2.1.2.1, List.take x.2.1.2.2.1.length x.2.1.2.2.1, x.2.1.2.2.2.1, List.take x.2.1.2.2.2.2.1.length x.2.1.2.2.2.2.1, x.2.1.2.2.2.2.2.1, x.2.1.2.2.2.2.2.2.1, x.2.1.2.2.2.2.2.2.2.1, List.take x.2.1.2.2.2.2.2.2.2.2.1.length x.2.1.2.2.2.2.2.2.2.2.1, List.take x.2.1.2.2.2.2.2.2.2.2.2.1.length x.2.1.2.2.2.2.2.2.2.2.2.1, ()), W (x.2.2.1 + (1 : Int)), ())) (T.ite (decide ((0 : Int) ≤ y.2.2.2.1) && decide (y.2.2.2.1 < (↑x.2.1.2.2.2.2.2.2.2.2.2.1.length : Int))) (T.opt x.2.1.2.2.2.2.2.2.2.2.2.1[(0 : Nat) + Int.toNat y.2.2.2.1]? fun y_2 => T.ite (decide (y.2.2.2.1 < (0 : Int))) (T.opt (eachShine.l0 ((List.take x.2.1.1.length x.2.1.1, List.take x.2.1.2.1.length x.2.1.2.1, List.take x.2.1.2.2.1.length x.2.1.2.2.1, x.2.1.2.2.2.1, List.take x.2.1.2.2.2.2.1.length x.2.1.2.2.2.2.1, x.2.1.2.2.2.2.2.1, x.2.1.2.2.2.2.2.2.1, x.2.1.2.2.2.2.2.2.2.1, List.take x.2.1.2.2.2.2.2.2.2.2.1.length x.2.1.2.2.2.2.2.2.2.2.1, List.take x.2.1.2.2.2.2.2.2.2.2.2.1.length (x.2.1.2.2.2.2.2.2.2.2.2.1.set ((0 : Nat) + Int.toNat y.2.2.2.1) true), ()), (), (W (↑(BitVec.ofInt IntKind.i64.bits y.2.2.2.2.2.1.1 &&& BitVec.ofInt IntKind.i64.bits (1023 : Int)).toNat : Int), W (↑(BitVec.ofInt IntKind.i64.bits y.2.2.2.2.2.1.2.1 &&& BitVec.ofInt IntKind.i64.bits (1023 : Int)).toNat : Int), W (↑(BitVec.ofInt IntKind.i64.bits y.2.2.2.2.2.1.2.2 &&& BitVec.ofInt IntKind.i64.bits (1023 : Int)).toNat : Int)), (0 : Int), (0 : Int), ())) fun y => T.ite (exEq y.1 (Ex.exit (0 : Nat))) (T.ret (Ex.normal, x.1, (List.take y.2.1.1.length y.2.1.1, List.take y.2.1.2.1.length y.2.1.2.1, List.take y.2.1.2.2.1.length y.2.1.2.2.1, y.2.1.2.2.2.1, List.take y.2.1.2.2.2.2.1.length y.2.1.2.2.2.2.1, y.2.1.2.2.2.2.2.1, y.2.1.2.2.2.2.2.2.1, y.2.1.2.2.2.2.2.2.2.1, List.take y.2.1.2.2.2.2.2.2.2.2.1.length y.2.1.2.2.2.2.2.2.2.2.1, List.take y.2.1.2.2.2.2.2.2.2.2.2.1.length y.2.1.2.2.2.2.2.2.2.2.2.1, ()), W (x.2.2.1 + (1 : Int)), ())) T.fail) (T.ite (decide (y.2.2.2.1 ≥ (↑x.2.1.2.2.2.2.2.2.2.2.1.length : Int))) (T.opt (eachShine.l0 ((List.take x.2.1.1.length x.2.1.1, List.take x.2.1.2.1.length x.2.1.2.1, List.take x.2.1.2.2.1.length x.2.1.2.2.1, x.2.1.2.2.2.1, List.take x.2.1.2.2.2.2.1.length x.2.1.2.2.2.2.1, x.2.1.2.2.2.2.2.1, x.2.1.2.2.2.2.2.2.1, x.2.1.2.2.2.2.2.2.2.1, List.take x.2.1.2.2.2.2.2.2.2.2.1.length x.2.1.2.2.2.2.2.2.2.2.1, List.take x.2.1.2.2.2.2.2.2.2.2.2.1.length (x.2.1.2.2.2.2.2.2.2.2.2.1.set ((0 : Nat) + Int.toNat y.2.2.2.1) true), ()), (), (W (↑(BitVec.ofInt IntKind.i64.bits y.2.2.2.2.2.1.1 &&& BitVec.ofInt IntKind.i64.bits (1023 : Int)).toNat : Int), W (↑(BitVec.ofInt IntKind.i64.bits y.2.2.2.2.2.1.2.1 &&& BitVec.ofInt IntKind.i64.bits (1023 : Int)).toNat : Int), W (↑(BitVec.ofInt IntKind.i64.bits y.2.2.2.2.2.1.2.2 &&& BitVec.ofInt IntKind.i64.bits (1023 : Int)).toNat : Int)), (0 : Int), (0 : Int), ())) fun y => T.ite (exEq y.1 (Ex.exit (0 : Nat))) (T.ret (Ex.normal, x.1, (List.take y.2.1.1.length y.2.1.1, List.take y.2.1.2.1.length y.2.1.2.1, List.take y.2.1.2.2.1.length y.2.1.2.2.1, y.2.1.2.2.2.1, List.take y.2.1.2.2.2.2.1.length y.2.1.2.2.2.2.1, y.2.1.2.2.2.2.2.1, y.2.1.2.2.2.2.2.2.1, y.2.1.2.2.2.2.2.2.2.1, List.take y.2.1.2.2.2.2.2.2.2.2.1.length y.2.1.2.2.2.2.2.2.2.2.1, List.take y.2.1.2.2.2.2.2.2.2.2.2.1.length y.2.1.2.2.2.2.2.2.2.2.2.1, ()), W (x.2.2.1 + (1 : Int)), ())) T.fail) (T.ite (y.2.2.2.1 == (0 : Int)) (T.ite (decide ((0 : Int) ≤ (0 : Int)) && decide ((0 : Int) < (↑x.2.1.2.2.2.2.2.2.2.2.1.length : Int))) (T.opt x.2.1.2.2.2.2.2.2.2.2.1[(0 : Nat) + Int.toNat (0 : Int)]? fun y_3 => T.opt (eachShine.l0 ((List.take x.2.1.1.length x.2.1.1, List.take x.2.1.2.1.length x.2.1.2.1, List.take x.2.1.2.2.1.length x.2.1.2.2.1, x.2.1.2.2.2.1, List.take x.2.1.2.2.2.2.1.length x.2.1.2.2.2.2.1, x.2.1.2.2.2.2.2.1, x.2.1.2.2.2.2.2.2.1, x.2.1.2.2.2.2.2.2.2.1, List.take x.2.1.2.2.2.2.2.2.2.2.1.length x.2.1.2.2.2.2.2.2.2.2.1, List.take x.2.1.2.2.2.2.2.2.2.2.2.1.length (x.2.1.2.2.2.2.2.2.2.2.2.1.set ((0 : Nat) + Int.toNat y.2.2.2.1) true), ()), (), (W (↑(BitVec.ofInt IntKind.i64.bits y.2.2.2.2.2.1.1 &&& BitVec.ofInt IntKind.i64.bits (1023 : Int)).toNat : Int), W (↑(BitVec.ofInt IntKind.i64.bits y.2.2.2.2.2.1.2.1 &&& BitVec.ofInt IntKind.i64.bits (1023 : Int)).toNat : Int), W (↑(BitVec.ofInt IntKind.i64.bits y.2.2.2.2.2.1.2.2 &&& BitVec.ofInt IntKind.i64.bits (1023 : Int)).toNat : Int)), y_3, (0 : Int), ())) fun y => T.ite (exEq y.1 (Ex.exit (0 : Nat))) (T.ret (Ex.normal, x.1, (List.take y.2.1.1.length y.2.1.1, List.take y.2.1.2.1.length y.2.1.2.1, List.take y.2.1.2.2.1.length y.2.1.2.2.1, y.2.1.2.2.2.1, List.take y.2.1.2.2.2.2.1.length y.2.1.2.2.2.2.1, y.2.1.2.2.2.2.2.1, y.2.1.2.2.2.2.2.2.1, y.2.1.2.2.2.2.2.2.2.1, List.take y.2.1.2.2.2.2.2.2.2.2.1.length y.2.1.2.2.2.2.2.2.2.2.1, List.take y.2.1.2.2.2.2.2.2.2.2.2.1.length y.2.1.2.2.2.2.2.2.2.2.2.1, ()), W (x.2.2.1 + (1 : Int)), ())) T.fail) T.fail) (T.ite (decide ((0 : Int) ≤ W (y.2.2.2.1 - (1 : Int))) && decide (W (y.2.2.2.1 - (1 : Int)) < (↑x.2.1.2.2.2.2.2.2.2.2.1.length : Int))) (T.opt x.2.1.2.2.2.2.2.2.2.2.1[(0 : Nat) + (W (y.2.2.2.1 - (1 : Int))).toNat]? fun y_3 => T.ite (decide ((0 : Int) ≤ y.2.2.2.1) && decide (y.2.2.2.1 < (↑x.2.1.2.2.2.2.2.2.2.2.1.length : Int))) (T.opt x.2.1.2.2.2.2.2.2.2.2.1[(0 : Nat) + Int.toNat y.2.2.2.1]? fun y_4 => T.opt (eachShine.l0 ((List.take x.2.1.1.length x.2.1.1, List.take x.2.1.2.1.length x.2.1.2.1, List.take x.2.1.2.2.1.length x.2.1.2.2.1, x.2.1.2.2.2.1, List.take x.2.1.2.2.2.2.1.length x.2.1.2.2.2.2.1, x.2.1.2.2.2.2.2.1, x.2.1.2.2.2.2.2.2.1, x.2.1.2.2.2.2.2.2.2.1, List.take x.2.1.2.2.2.2.2.2.2.2.1.length x.2.1.2.2.2.2.2.2.2.2.1, List.take x.2.1.2.2.2.2.2.2.2.2.2.1.length (x.2.1.2.2.2.2.2.2.2.2.2.1.set ((0 : Nat) + Int.toNat y.2.2.2.1) true), ()), (), (W (↑(BitVec.ofInt IntKind.i64.bits y.2.2.2.2.2.1.1 &&& BitVec.ofInt IntKind.i64.bits (1023 : Int)).toNat : Int), W (↑(BitVec.ofInt IntKind.i64.bits y.2.2.2.2.2.1.2.1 &&& BitVec.ofInt IntKind.i64.bits (1023 : Int)).toNat : Int), W (↑(BitVec.ofInt IntKind.i64.bits y.2.2.2.2.2.1.2.2 &&& BitVec.ofInt IntKind.i64.bits (1023 : Int)).toNat : Int)), y_4, y_3, ())) fun y => T.ite (exEq y.1 (Ex.exit (0 : Nat))) (T.ret (Ex.normal, x.1, (List.take y.2.1.1.length y.2.1.1, List.take y.2.1.2.1.length y.2.1.2.1, List.take y.2.1.2.2.1.length y.2.1.2.2.1, y.2.1.2.2.2.1, List.take y.2.1.2.2.2.2.1.length y.2.1.2.2.2.2.1, y.2.1.2.2.2.2.2.1, y.2.1.2.2.2.2.2.2.1, y.2.1.2.2.2.2.2.2.2.1, List.take y.2.1.2.2.2.2.2.2.2.2.1.length y.2.1.2.2.2.2.2.2.2.2.1, List.take y.2.1.2.2.2.2.2.2.2.2.2.1.length y.2.1.2.2.2.2.2.2.2.2.2.1, ()), W (x.2.2.1 + (1 : Int)), ())) T.fail) T.fail) T.fail)))) T.fail)) T.fail))) (T.ite (y.1 == (3 : Int)) (T.ite (decide ((0 : Int) ≤ (16 : Int)) && decide ((16 : Int) ≤ (16 : Int)) && decide ((16 : Int) * (↑(nat_lit 24) : Int) ≤ (↑most : Int)) && decide ((16 : Int) ≤ (↑most : Int))) (T.ite ((↑(Int.toNat (16 : Int)) : Int) == (0 : Int)) (T.ret (Ex.normal, x.1, (List.take x.2.1.1.length x.2.1.1, List.take x.2.1.2.1.length x.2.1.2.1, List.take x.2.1.2.2.1.length x.2.1.2.2.1, x.2.1.2.2.2.1, List.take x.2.1.2.2.2.2.1.length x.2.1.2.2.2.2.1, x.2.1.2.2.2.2.2.1, x.2.1.2.2.2.2.2.2.1, x.2.1.2.2.2.2.2.2.2.1, List.take x.2.1.2.2.2.2.2.2.2.2.1.length x.2.1.2.2.2.2.2.2.2.2.1, List.take x.2.1.2.2.2.2.2.2.2.2.2.1.length x.2.1.2.2.2.2.2.2.2.2.2.1, ()), W (x.2.2.1 + (1 : Int)), ())) (T.ite ((↑(Int.toNat (16 : Int)) : Int).tmod (8 : Int) != (0 : Int) || decide (W ((↑(Int.toNat (16 : Int)) : Int).tdiv (8 : Int)) > (16 : Int))) (T.ret (Ex.normal, x.1, (List.take x.2.1.1.length x.2.1.1, List.take x.2.1.2.1.length x.2.1.2.1, List.take x.2.1.2.2.1.length x.2.1.2.2.1, x.2.1.2.2.2.1, List.take x.2.1.2.2.2.2.1.length x.2.1.2.2.2.2.1, x.2.1.2.2.2.2.2.1, x.2.1.2.2.2.2.2.2.1, x.2.1.2.2.2.2.2.2.2.1, List.take x.2.1.2.2.2.2.2.2.2.2.1.length x.2.1.2.2.2.2.2.2.2.2.1, List.take x.2.1.2.2.2.2.2.2.2.2.2.1.length x.2.1.2.2.2.2.2.2.2.2.2.1, ()), W (x.2.2.1 + (1 : Int)), ())) (T.ite (decide (x.2.1.2.2.2.1 > (0 : Int))) (T.ret (Ex.normal, x.1, (List.take x.2.1.1.length x.2.1.1, List.take x.2.1.2.1.length x.2.1.2.1, List.take x.2.1.2.2.1.length x.2.1.2.2.1, x.2.1.2.2.2.1, List.take x.2.1.2.2.2.2.1.length x.2.1.2.2.2.2.1, x.2.1.2.2.2.2.2.1, x.2.1.2.2.2.2.2.2.1, x.2.1.2.2.2.2.2.2.2.1, List.take x.2.1.2.2.2.2.2.2.2.2.1.length x.2.1.2.2.2.2.2.2.2.2.1, List.take x.2.1.2.2.2.2.2.2.2.2.2.1.length x.2.1.2.2.2.2.2.2.2.2.2.1, ()), W (x.2.2.1 + (1 : Int)), ())) (T.ite (decide ((List.take (Int.toNat (16 : Int)) (List.replicate (Int.toNat (16 : Int)) ((0 : Int), (0 : Int), (0 : Int)))).length * nat_lit 24 ≤ most)) (T.ret (Ex.normal, x.1, (List.take x.2.1.1.length x.2.1.1, List.take x.2.1.2.1.length x.2.1.2.1, List.take x.2.1.2.2.1.length x.2.1.2.2.1, W ((↑(Int.toNat (16 : Int)) : Int).tdiv (8 : Int)), List.take (List.take (Int.toNat (16 : Int)) (List.replicate (Int.toNat (16 : Int)) ((0 : Int), (0 : Int), (0 : Int)))).length (List.take (Int.toNat (16 : Int)) (List.replicate (Int.toNat (16 : Int)) ((0 : Int), (0 : Int), (0 : Int)))), x.2.1.2.2.2.2.2.1, x.2.1.2.2.2.2.2.2.1, x.2.1.2.2.2.2.2.2.2.1, List.take x.2.1.2.2.2.2.2.2.2.2.1.length x.2.1.2.2.2.2.2.2.2.2.1, List.take x.2.1.2.2.2.2.2.2.2.2.2.1.length x.2.1.2.2.2.2.2.2.2.2.2.1, ()), W (x.2.2.1 + (1 : Int)), ())) T.fail)))) T.fail) (T.ite (y.1 == (5 : Int)) (T.ite (decide ((0 : Int) ≤ (16 : Int)) && decide ((16 : Int) ≤ (16 : Int)) && decide ((16 : Int) * (↑(nat_lit 24) : Int) ≤ (↑most : Int)) && decide ((16 : Int) ≤ (↑most : Int))) (T.ite ((↑(Int.toNat (16 : Int)) : Int) == (0 : Int)) (T.ret (Ex.normal, x.1, (List.take x.2.1.1.length x.2.1.1, List.take x.2.1.2.1.length x.2.1.2.1, List.take x.2.1.2.2.1.length x.2.1.2.2.1, x.2.1.2.2.2.1, List.take x.2.1.2.2.2.2.1.length x.2.1.2.2.2.2.1, x.2.1.2.2.2.2.2.1, x.2.1.2.2.2.2.2.2.1, x.2.1.2.2.2.2.2.2.2.1, List.take x.2.1.2.2.2.2.2.2.2.2.1.length x.2.1.2.2.2.2.2.2.2.2.1, List.take x.2.1.2.2.2.2.2.2.2.2.2.1.length x.2.1.2.2.2.2.2.2.2.2.2.1, ()), W (x.2.2.1 + (1 : Int)), ())) (T.ite ((↑(Int.toNat (16 : Int)) : Int).tmod (8 : Int) != (0 : Int) || decide (W ((↑(Int.toNat (16 : Int)) : Int).tdiv (8 : Int)) > (16 : Int))) (T.ret (Ex.normal, x.1, (List.take x.2.1.1.length x.2.1.1, List.take x.2.1.2.1.length x.2.1.2.1, List.take x.2.1.2.2.1.length x.2.1.2.2.1, x.2.1.2.2.2.1, List.take x.2.1.2.2.2.2.1.length x.2.1.2.2.2.2.1, x.2.1.2.2.2.2.2.1, x.2.1.2.2.2.2.2.2.1, x.2.1.2.2.2.2.2.2.2.1, List.take x.2.1.2.2.2.2.2.2.2.2.1.length x.2.1.2.2.2.2.2.2.2.2.1, List.take x.2.1.2.2.2.2.2.2.2.2.2.1.length x.2.1.2.2.2.2.2.2.2.2.2.1, ()), W (x.2.2.1 + (1 : Int)), ())) (T.ite (decide (x.2.1.2.2.2.1 > (0 : Int))) (T.ret (Ex.normal, x.1, (List.take x.2.1.1.length x.2.1.1, List.take x.2.1.2.1.length x.2.1.2.1, List.take x.2.1.2.2.1.length x.2.1.2.2.1, x.2.1.2.2.2.1, List.take x.2.1.2.2.2.2.1.length x.2.1.2.2.2.2.1, x.2.1.2.2.2.2.2.1, x.2.1.2.2.2.2.2.2.1, x.2.1.2.2.2.2.2.2.2.1, List.take x.2.1.2.2.2.2.2.2.2.2.1.length x.2.1.2.2.2.2.2.2.2.2.1, List.take x.2.1.2.2.2.2.2.2.2.2.2.1.length x.2.1.2.2.2.2.2.2.2.2.2.1, ()), W (x.2.2.1 + (1 : Int)), ())) (T.ite (decide ((List.take (Int.toNat (16 : Int)) (List.replicate (Int.toNat (16 : Int)) ((0 : Int), (0 : Int), (0 : Int)))).length * nat_lit 24 ≤ most)) (T.ret (Ex.normal, x.1, (List.take x.2.1.1.length x.2.1.1, List.take x.2.1.2.1.length x.2.1.2.1, List.take x.2.1.2.2.1.length x.2.1.2.2.1, W ((↑(Int.toNat (16 : Int)) : Int).tdiv (8 : Int)), List.take (List.take (Int.toNat (16 : Int)) (List.replicate (Int.toNat (16 : Int)) ((0 : Int), (0 : Int), (0 : Int)))).length (List.take (Int.toNat (16 : Int)) (List.replicate (Int.toNat (16 : Int)) ((0 : Int), (0 : Int), (0 : Int)))), x.2.1.2.2.2.2.2.1, x.2.1.2.2.2.2.2.2.1, x.2.1.2.2.2.2.2.2.2.1, List.take x.2.1.2.2.2.2.2.2.2.2.1.length x.2.1.2.2.2.2.2.2.2.2.1, List.take x.2.1.2.2.2.2.2.2.2.2.2.1.length x.2.1.2.2.2.2.2.2.2.2.2.1, ()), W (x.2.2.1 + (1 : Int)), ())) T.fail)))) T.fail) (T.ite (decide (y.2.1 < (1 : Int)) || decide (y.2.1 > (3 : Int)) || decide ((0 : Int) < (0 : Int))) (T.ret (Ex.normal, x.1, (List.take x.2.1.1.length x.2.1.1, List.take x.2.1.2.1.length x.2.1.2.1, List.take x.2.1.2.2.1.length x.2.1.2.2.1, x.2.1.2.2.2.1, List.take x.2.1.2.2.2.2.1.length x.2.1.2.2.2.2.1, x.2.1.2.2.2.2.2.1, x.2.1.2.2.2.2.2.2.1, x.2.1.2.2.2.2.2.2.2.1, List.take x.2.1.2.2.2.2.2.2.2.2.1.length x.2.1.2.2.2.2.2.2.2.2.1, List.take x.2.1.2.2.2.2.2.2.2.2.2.1.length x.2.1.2.2.2.2.2.2.2.2.2.1, ()), W (x.2.2.1 + (1 : Int)), ())) (T.ite (decide ((0 : Int) ≥ (↑x.2.1.1.length : Int))) (T.ret (Ex.normal, x.1, (List.take x.2.1.1.length x.2.1.1, List.take x.2.1.2.1.length x.2.1.2.1, List.take x.2.1.2.2.1.length x.2.1.2.2.1, x.2.1.2.2.2.1, List.take x.2.1.2.2.2.2.1.length x.2.1.2.2.2.2.1, x.2.1.2.2.2.2.2.1, x.2.1.2.2.2.2.2.2.1, x.2.1.2.2.2.2.2.2.2.1, List.take x.2.1.2.2.2.2.2.2.2.2.1.length x.2.1.2.2.2.2.2.2.2.2.1, List.take x.2.1.2.2.2.2.2.2.2.2.2.1.length x.2.1.2.2.2.2.2.2.2.2.2.1, ()), W (x.2.2.1 + (1 : Int)), ())) (T.opt (build_shape (y.2.1, y.2.2.2.2.1)) fun y_1 => T.ite (y_1.snd == (0 : Int)) (T.opt (xform_Mesh (y.2.2.2.2.2.2.1, y_1.fst)) fun y => T.ite (y.2 != (0 : Int)) (T.ret (Ex.normal, x.1, (List.take x.2.1.1.length x.2.1.1, List.take x.2.1.2.1.length x.2.1.2.1, List.take x.2.1.2.2.1.length x.2.1.2.2.1, x.2.1.2.2.2.1, List.take x.2.1.2.2.2.2.1.length x.2.1.2.2.2.2.1, x.2.1.2.2.2.2.2.1, x.2.1.2.2.2.2.2.2.1, x.2.1.2.2.2.2.2.2.2.1, List.take x.2.1.2.2.2.2.2.2.2.2.1.length x.2.1.2.2.2.2.2.2.2.2.1, List.take x.2.1.2.2.2.2.2.2.2.2.2.1.length x.2.1.2.2.2.2.2.2.2.2.2.1, ()), W (x.2.2.1 + (1 : Int)), ())) (T.ite (decide (W ((↑x.2.1.2.1.length : Int) + (↑(List.length y.1.2) : Int)) > (512 : Int))) (T.ret (Ex.normal, x.1, (List.take x.2.1.1.length x.2.1.1, List.take x.2.1.2.1.length x.2.1.2.1, List.take x.2.1.2.2.1.length x.2.1.2.2.1, x.2.1.2.2.2.1, List.take x.2.1.2.2.2.2.1.length x.2.1.2.2.2.2.1, x.2.1.2.2.2.2.2.1, x.2.1.2.2.2.2.2.2.1, x.2.1.2.2.2.2.2.2.2.1, List.take x.2.1.2.2.2.2.2.2.2.2.1.length x.2.1.2.2.2.2.2.2.2.2.1, List.take x.2.1.2.2.2.2.2.2.2.2.2.1.length x.2.1.2.2.2.2.2.2.2.2.2.1, ()), W (x.2.2.1 + (1 : Int)), ())) (T.opt (mesh_Tris (y.1, (0 : Int))) fun y => T.ite (decide ((x.2.1.2.1.length + List.length y.1) * nat_lit 80 ≤ most)) (T.ite (decide ((x.2.1.2.2.2.2.2.2.2.2.1.length + (1 : Nat)) * nat_lit 8 ≤ most)) (T.ite (decide ((x.2.1.2.2.2.2.2.2.2.2.2.1.length + (1 : Nat)) * nat_lit 1 ≤ most)) (T.ret (Ex.normal, x.1, (List.take x.2.1.1.length x.2.1.1, List.take (x.2.1.2.1.length + List.length y.1) (List.take x.2.1.2.1.length x.2.1.2.1 ++ y.1), List.take x.2.1.2.2.1.length x.2.1.2.2.1, x.2.1.2.2.2.1, List.take x.2.1.2.2.2.2.1.length x.2.1.2.2.2.2.1, x.2.1.2.2.2.2.2.1, x.2.1.2.2.2.2.2.2.1, x.2.1.2.2.2.2.2.2.2.1, List.take (x.2.1.2.2.2.2.2.2.2.2.1.length + (1 : Nat)) (List.take x.2.1.2.2.2.2.2.2.2.2.1.length x.2.1.2.2.2.2.2.2.2.2.1 ++ [(↑(x.2.1.2.1.length + List.length y.1) : Int)]), List.take (x.2.1.2.2.2.2.2.2.2.2.2.1.length + (1 : Nat)) (List.take x.2.1.2.2.2.2.2.2.2.2.2.1.length x.2.1.2.2.2.2.2.2.2.2.2.1 ++ [false]), ()), W (x.2.2.1 + (1 : Int)), ())) T.fail) T.fail) T.fail))) (T.ite (y_1.snd != (0 : Int)) (T.ret (Ex.normal, x.1, (List.take x.2.1.1.length x.2.1.1, List.take x.2.1.2.1.length x.2.1.2.1, List.take x.2.1.2.2.1.length x.2.1.2.2.1, x.2.1.2.2.2.1, List.take x.2.1.2.2.2.2.1.length x.2.1.2.2.2.2.1, x.2.1.2.2.2.2.2.1, x.2.1.2.2.2.2.2.2.1, x.2.1.2.2.2.2.2.2.2.1, List.take x.2.1.2.2.2.2.2.2.2.2.1.length x.2.1.2.2.2.2.2.2.2.2.1, List.take x.2.1.2.2.2.2.2.2.2.2.2.1.length x.2.1.2.2.2.2.2.2.2.2.2.1, ()), W (x.2.2.1 + (1 : Int)), ())) (T.ite (decide (W ((↑x.2.1.2.1.length : Int) + (↑(List.length y_1.fst.snd) : Int)) > (512 : Int))) (T.ret (Ex.normal, x.1, (List.take x.2.1.1.length x.2.1.1, List.take x.2.1.2.1.length x.2.1.2.1, List.take x.2.1.2.2.1.length x.2.1.2.2.1, x.2.1.2.2.2.1, List.take x.2.1.2.2.2.2.1.length x.2.1.2.2.2.2.1, x.2.1.2.2.2.2.2.1, x.2.1.2.2.2.2.2.2.1, x.2.1.2.2.2.2.2.2.2.1, List.take x.2.1.2.2.2.2.2.2.2.2.1.length x.2.1.2.2.2.2.2.2.2.2.1, List.take x.2.1.2.2.2.2.2.2.2.2.2.1.length x.2.1.2.2.2.2.2.2.2.2.2.1, ()), W (x.2.2.1 + (1 : Int)), ())) (T.opt (mesh_Tris (y_1.fst, (0 : Int))) fun y => T.ite (decide ((x.2.1.2.1.length + List.length y.1) * nat_lit 80 ≤ most)) (T.ite (decide ((x.2.1.2.2.2.2.2.2.2.2.1.length + (1 : Nat)) * nat_lit 8 ≤ most)) (T.ite (decide ((x.2.1.2.2.2.2.2.2.2.2.2.1.length + (1 : Nat)) * nat_lit 1 ≤ most)) (T.ret (Ex.normal, x.1, (List.take x.2.1.1.length x.2.1.1, List.take (x.2.1.2.1.length + List.length y.1) (List.take x.2.1.2.1.length x.2.1.2.1 ++ y.1), List.take x.2.1.2.2.1.length x.2.1.2.2.1, x.2.1.2.2.2.1, List.take x.2.1.2.2.2.2.1.length x.2.1.2.2.2.2.1, x.2.1.2.2.2.2.2.1, x.2.1.2.2.2.2.2.2.1, x.2.1.2.2.2.2.2.2.2.1, List.take (x.2.1.2.2.2.2.2.2.2.2.1.length + (1 : Nat)) (List.take x.2.1.2.2.2.2.2.2.2.2.1.length x.2.1.2.2.2.2.2.2.2.2.1 ++ [(↑(x.2.1.2.1.length + List.length y.1) : Int)]), List.take (x.2.1.2.2.2.2.2.2.2.2.2.1.length + (1 : Nat)) (List.take x.2.1.2.2.2.2.2.2.2.2.2.1.length x.2.1.2.2.2.2.2.2.2.2.2.1 ++ [false]), ()), W (x.2.2.1 + (1 : Int)), ())) T.fail) T.fail) T.fail))))))))) (T.ret (Ex.exit (0 : Nat), x.1, (List.take x.2.1.1.length x.2.1.1, List.take x.2.1.2.1.length x.2.1.2.1, List.take x.2.1.2.2.1.length x.2.1.2.2.1, x.2.1.2.2.2.1, List.take x.2.1.2.2.2.2.1.length x.2.1.2.2.2.2.1, x.2.1.2.2.2.2.2.1, x.2.1.2.2.2.2.2.2.1, x.2.1.2.2.2.2.2.2.2.1, List.take x.2.1.2.2.2.2.2.2.2.2.1.length x.2.1.2.2.2.2.2.2.2.2.1, List.take x.2.1.2.2.2.2.2.2.2.2.2.1.length x.2.1.2.2.2.2.2.2.2.2.2.1, ()), x.2.2.1, ()))
noncomputable def law47_BuildRight.l0 (x : (List (Int × Int × Int × Int × (Int × Int × Int) × (Int × Int × Int) × ((Int × Int × Int) × (Int × Int × Int) × (Int × Int × Int) × Int × Int × Int) × ((Int × Int × Int) × (Int × Int × Int) × Int) × List (Int × Int × Int))) × (List ((Int × Int × Int) × (Int × Int × Int) × Int) × List ((Int × Int × Int) × (Int × Int × Int) × (Int × Int × Int) × Int) × List (Int × Int × Int × Int) × Int × List (Int × Int × Int) × ((Int × Int × Int) × (Int × Int × Int) × (Int × Int × Int) × Int × Int × Int) × Int × Int × List Int × List Bool × Unit) × Int × Unit) : Option (Ex × (List (Int × Int × Int × Int × (Int × Int × Int) × (Int × Int × Int) × ((Int × Int × Int) × (Int × Int × Int) × (Int × Int × Int) × Int × Int × Int) × ((Int × Int × Int) × (Int × Int × Int) × Int) × List (Int × Int × Int))) × (List ((Int × Int × Int) × (Int × Int × Int) × Int) × List ((Int × Int × Int) × (Int × Int × Int) × (Int × Int × Int) × Int) × List (Int × Int × Int × Int) × Int × List (Int × Int × Int) × ((Int × Int × Int) × (Int × Int × Int) × (Int × Int × Int) × Int × Int × Int) × Int × Int × List Int × List Bool × Unit) × Int × Unit) := (iterT law47_BuildRight.t0 rounds x).run
theorem law47_BuildRight.k0 : bodies 0 (lp Try.f9 []) = [.loop (loopIn 0 (lp Try.f9 []))] ∧ WP Try.prog 0 (.block 0 (.loop (loopIn 0 (lp Try.f9 [])))) (loopS law47_BuildRight.L0 84 0 [.exit 0] law47_BuildRight.l0) :=
  loop_tree (L := law47_BuildRight.L0) (F := (dpT Try.prog (ext (ext (ext (ext (ext (ext (ext (ext Xs 42 law47_awake.q) 80 build_shape.q) 36 xform_Mesh.q) 31 mesh_Tris.q) 81 fault_New.q) 107 xform_dot_1.q) 115 scene_lights_1.q) 117 scene_within_1.q) law47_BuildRight.deeps law47_BuildRight.tabl 100 8)) (D := (inL law47_BuildRight.deeps.D)) (tab := []) (t := law47_BuildRight.t0) mixed (dpT_ok mixed (quiet_ext (quiet_ext (quiet_ext (quiet_ext (quiet_ext (quiet_ext (quiet_ext (quiet_ext Xok law47_awake.ok) build_shape.ok) xform_Mesh.ok) mesh_Tris.ok) fault_New.ok) xform_dot_1.ok) scene_lights_1.ok) scene_within_1.ok) law47_BuildRight.deepsOk law47_BuildRight.tablOk 100 8).1 (dpT_ok mixed (quiet_ext (quiet_ext (quiet_ext (quiet_ext (quiet_ext (quiet_ext (quiet_ext (quiet_ext Xok law47_awake.ok) build_shape.ok) xform_Mesh.ok) mesh_Tris.ok) fault_New.ok) xform_dot_1.ok) scene_lights_1.ok) scene_within_1.ok) law47_BuildRight.deepsOk law47_BuildRight.tablOk 100 8).2 (fun _ => rfl) (by kernel_rfl) (by kernel_rfl) trivial (fun x => by kernel_rfl)
noncomputable def law47_BuildRight.t (x : (List (Int × Int × Int × Int × (Int × Int × Int) × (Int × Int × Int) × ((Int × Int × Int) × (Int × Int × Int) × (Int × Int × Int) × Int × Int × Int) × ((Int × Int × Int) × (Int × Int × Int) × Int) × List (Int × Int × Int)))) : T (Bool) := T.ite false (T.ret false) (T.ite (decide ((1 : Nat) * nat_lit 56 ≤ most)) (T.opt (law47_BuildRight.l0 (x, ([(((512 : Int), (512 : Int), (512 : Int)), ((0 : Int), (0 : Int), (0 : Int)), (512 : Int))], [], [], (0 : Int), [], (((0 : Int), (0 : Int), (4096 : Int)), ((0 : Int), (0 : Int), (0 : Int)), ((0 : Int), (1024 : Int), (0 : Int)), (1024 : Int), (0 : Int), (1024 : Int)), (1 : Int), (512 : Int), [], [], ()), (0 : Int), ())) fun y => T.ite (exEq y.1 (Ex.exit (0 : Nat))) (T.opt (scene_Check (List.take y.2.2.1.1.length y.2.2.1.1, List.take y.2.2.1.2.1.length y.2.2.1.2.1, List.take y.2.2.1.2.2.1.length y.2.2.1.2.2.1, y.2.2.1.2.2.2.1, List.take y.2.2.1.2.2.2.2.1.length y.2.2.1.2.2.2.2.1, y.2.2.1.2.2.2.2.2.1, y.2.2.1.2.2.2.2.2.2.1, y.2.2.1.2.2.2.2.2.2.2.1)) fun y_1 => T.ite (!y_1.isNil) (T.ite y_1.isNil (T.opt (ref22_Check ([], [], [], (0 : Int), [], (((0 : Int), (0 : Int), (0 : Int)), ((0 : Int), (0 : Int), (0 : Int)), ((0 : Int), (0 : Int), (0 : Int)), (0 : Int), (0 : Int), (0 : Int)), (0 : Int), (0 : Int))) fun y => T.ret (y.1 == (0 : Int) && (y.2.1 == (0 : Int) && y.2.2 == (0 : Int)))) (T.ret false)) (T.ite (decide ((List.take y.2.2.1.1.length y.2.2.1.1).length * (56 : Nat) ≤ most)) (T.ite (decide ((List.take y.2.2.1.2.1.length y.2.2.1.2.1).length * (80 : Nat) ≤ most)) (T.ite (decide ((List.take y.2.2.1.2.2.1.length y.2.2.1.2.2.1).length * (32 : Nat) ≤ most)) (T.ite (decide ((List.take y.2.2.1.2.2.2.2.1.length y.2.2.1.2.2.2.2.1).length * (24 : Nat) ≤ most)) (T.ite true (T.opt (ref22_Check (List.take (List.take y.2.2.1.1.length y.2.2.1.1).length (List.take y.2.2.1.1.length y.2.2.1.1), List.take (List.take y.2.2.1.2.1.length y.2.2.1.2.1).length (List.take y.2.2.1.2.1.length y.2.2.1.2.1), List.take (List.take y.2.2.1.2.2.1.length y.2.2.1.2.2.1).length (List.take y.2.2.1.2.2.1.length y.2.2.1.2.2.1), y.2.2.1.2.2.2.1, List.take (List.take y.2.2.1.2.2.2.2.1.length y.2.2.1.2.2.2.2.1).length (List.take y.2.2.1.2.2.2.2.1.length y.2.2.1.2.2.2.2.1), y.2.2.1.2.2.2.2.2.1, y.2.2.1.2.2.2.2.2.2.1, y.2.2.1.2.2.2.2.2.2.2.1)) fun y => T.ret (y.1 == (0 : Int) && (y.2.1 == (0 : Int) && y.2.2 == (0 : Int)))) (T.ret false)) T.fail) T.fail) T.fail) T.fail)) T.fail) T.fail)
noncomputable def law47_BuildRight (x : (List (Int × Int × Int × Int × (Int × Int × Int) × (Int × Int × Int) × ((Int × Int × Int) × (Int × Int × Int) × (Int × Int × Int) × Int × Int × Int) × ((Int × Int × Int) × (Int × Int × Int) × Int) × List (Int × Int × Int)))) : Option (Bool) := (law47_BuildRight.t x).run
noncomputable def law47_BuildRight.q : List AV → T AV := entry [(.sl (.st (.pair TI (.pair TI (.pair TI (.pair TI (.pair TP (.pair TP (.pair TMove (.pair TMatD (.sl TP)))))))))))] (outR [.bool]) fun x => .opt (law47_BuildRight x) .ret
theorem law47_BuildRight.ok : FnOK Try.prog 9 law47_BuildRight.q :=
  entry_call (ps := [(.sl (.st (.pair TI (.pair TI (.pair TI (.pair TI (.pair TP (.pair TP (.pair TMove (.pair TMatD (.sl TP)))))))))))]) (rs := [.bool]) (F := (dpT Try.prog (ext (ext (ext (ext (ext (ext (ext (ext Xs 42 law47_awake.q) 80 build_shape.q) 36 xform_Mesh.q) 31 mesh_Tris.q) 81 fault_New.q) 107 xform_dot_1.q) 115 scene_lights_1.q) 117 scene_within_1.q) law47_BuildRight.deeps law47_BuildRight.tabl 100 8)) (D := (inL law47_BuildRight.deeps.D)) (S := tabS [(0, loopS law47_BuildRight.L0 84 0 [.exit 0] law47_BuildRight.l0)]) (t := law47_BuildRight.t) mixed (dpT_ok mixed (quiet_ext (quiet_ext (quiet_ext (quiet_ext (quiet_ext (quiet_ext (quiet_ext (quiet_ext Xok law47_awake.ok) build_shape.ok) xform_Mesh.ok) mesh_Tris.ok) fault_New.ok) xform_dot_1.ok) scene_lights_1.ok) scene_within_1.ok) law47_BuildRight.deepsOk law47_BuildRight.tablOk 100 8).1 (dpT_ok mixed (quiet_ext (quiet_ext (quiet_ext (quiet_ext (quiet_ext (quiet_ext (quiet_ext (quiet_ext Xok law47_awake.ok) build_shape.ok) xform_Mesh.ok) mesh_Tris.ok) fault_New.ok) xform_dot_1.ok) scene_lights_1.ok) scene_within_1.ok) law47_BuildRight.deepsOk law47_BuildRight.tablOk 100 8).2 Try.func9 (by kernel_rfl) (sok_fn ⟨law47_BuildRight.k0, trivial⟩) (by kernel_rfl) (fun x => by kernel_rfl)
end Go.Proofs.Pen

namespace Go.Proofs.Pen
open Go Go.Proofs

/-! ### No more lights than triangles -/
theorem sum_counts : ∀ (n : Nat) (o : List Int), ((List.range n).map fun (v : Nat) => o.count (v : Int)).sum = o.countP fun a : Int => decide (0 ≤ a) && decide (a < (n : Int))
  | 0, o => by
    rw [List.range_zero, List.map_nil, List.sum_nil, eq_comm, List.countP_eq_zero]
    intro a _
    first | (simp; done) | (simp; omega)
  | n + 1, o => by
    rw [List.range_succ, List.map_append, List.sum_append, sum_counts n o]
    simp only [List.map_cons, List.map_nil, List.sum_cons, List.sum_nil, Nat.add_zero]
    induction o with
    | nil => rfl
    | cons a o ih =>
      rw [List.countP_cons, List.countP_cons, List.count_cons, ← ih]
      by_cases h1 : 0 ≤ a ∧ a < n
      · rw [show (decide (0 ≤ a) && decide (a < (n : Int))) = true by simp; omega, show (decide (0 ≤ a) && decide (a < ((n + 1 : Nat) : Int))) = true by simp; omega, show (a == (n : Int)) = false by simp; omega]
        simp only [if_true, if_false, Bool.false_eq_true]
        omega
      · by_cases h2 : a = n
        · rw [show (decide (0 ≤ a) && decide (a < (n : Int))) = false by simp; omega, show (decide (0 ≤ a) && decide (a < ((n + 1 : Nat) : Int))) = true by simp; omega, show (a == (n : Int)) = true by simp; omega]
          simp only [if_true, if_false, Bool.false_eq_true]
          omega
        · rw [show (decide (0 ≤ a) && decide (a < (n : Int))) = false by simp; omega, show (decide (0 ≤ a) && decide (a < ((n + 1 : Nat) : Int))) = false by simp; omega, show (a == (n : Int)) = false by simp; omega]
          simp only [if_false, Bool.false_eq_true]
          omega

theorem sum_le {f : Nat → Nat} : ∀ {n : Nat}, (∀ v, v < n → f v ≤ 1) → ((List.range n).map f).sum ≤ n
  | 0, _ => Nat.le_refl _
  | n + 1, h => by
    rw [List.range_succ, List.map_append, List.sum_append]
    have h1 := sum_le (f := f) (n := n) fun v hv => h v (by omega)
    have h2 := h n (by omega)
    simp only [List.map_cons, List.map_nil, List.sum_cons, List.sum_nil, Nat.add_zero]
    omega

theorem count_once (v : Int) : ∀ l : List LitT, (l.Pairwise fun a b => a.1 ≠ b.1) → (l.map (·.1)).count v ≤ 1
  | [], _ => by simp
  | a :: l, h => by
    rw [List.pairwise_cons] at h
    rw [List.map_cons, List.count_cons]
    by_cases ha : a.1 = v
    · have : (l.map (·.1)).count v = 0 := by
        rw [List.count_eq_zero]
        intro hm
        obtain ⟨b, hb, e⟩ := List.mem_map.1 hm
        exact h.1 b hb (ha.trans e.symm)
      rw [this]
      split <;> omega
    · rw [if_neg (by simpa using ha)]
      exact count_once v l h.2

theorem lits_le {L : List LitT} {n : Nat} (hd : L.Pairwise fun a b => a.1 ≠ b.1) (hr : ∀ l ∈ L, 0 ≤ l.1 ∧ l.1 < n) : L.length ≤ n := by
  have hs := sum_counts n (L.map (·.1))
  have hc : ((L.map (·.1)).countP fun a : Int => decide (0 ≤ a) && decide (a < (n : Int))) = (L.map (·.1)).length := by
    rw [List.countP_eq_length]
    intro a ha
    obtain ⟨l, hl, rfl⟩ := List.mem_map.1 ha
    have := hr l hl
    simp; omega
  rw [hc, List.length_map] at hs
  rw [← hs]
  exact sum_le fun v _ => count_once v L hd

/-! ### A builder so far -/
def prevE (ends : List Int) (k : Nat) : Int := if k = 0 then 0 else ends.getD (k - 1) 0

structure Inv (T : List TriT) (L : List LitT) (z : Int) (C : List W3) (ends : List Int) (lit : List Bool) : Prop where
  tri : ∀ t ∈ T, triG 1 t
  tl : T.length ≤ 512
  en : lit.length = ends.length
  mono : ends.Pairwise fun a b => a ≤ b
  rng : ∀ e ∈ ends, 0 ≤ e ∧ e ≤ T.length
  li : ∀ l ∈ L, in3 l.2 0 67108863 = true ∧ ∃ k, k < ends.length ∧ lit.getD k false = true ∧ prevE ends k ≤ l.1 ∧ l.1 < ends.getD k 0
  nd : L.Pairwise fun a b => a.1 ≠ b.1
  sky : (z = 0 ∧ C = []) ∨ (z = 2 ∧ C = List.replicate 16 (0, 0, 0))

theorem gd {α : Type} {l : List α} {k : Nat} {d : α} (h : k < l.length) : l.getD k d = l[k] := by rw [List.getD_eq_getElem?_getD, List.getElem?_eq_getElem h, Option.getD_some]

theorem Inv.prev_nonneg {T : List TriT} {L : List LitT} {z : Int} {C : List W3} {ends : List Int} {lit : List Bool} (h : Inv T L z C ends lit) {k : Nat} (hk : k < ends.length) : 0 ≤ prevE ends k ∧ prevE ends k ≤ ends.getD k 0 ∧ ends.getD k 0 ≤ T.length := by
  have h2 := h.rng _ (List.getElem_mem hk)
  rw [gd hk]
  unfold prevE
  split
  · omega
  · rw [gd (show k - 1 < ends.length by omega)]
    have h1 := h.rng _ (List.getElem_mem (show k - 1 < ends.length by omega))
    have h3 := List.pairwise_iff_getElem.1 h.mono (k - 1) k (by omega) hk (by omega)
    omega

theorem Inv.apart {T : List TriT} {L : List LitT} {z : Int} {C : List W3} {ends : List Int} {lit : List Bool} (h : Inv T L z C ends lit) {j k : Nat} (hjk : j < k) (hk : k < ends.length) : ends.getD j 0 ≤ prevE ends k := by
  unfold prevE
  rw [if_neg (by omega), gd (by omega), gd (show k - 1 < ends.length by omega)]
  rcases Nat.lt_or_ge j (k - 1) with hlt | hge
  · exact List.pairwise_iff_getElem.1 h.mono j (k - 1) (by omega) (by omega) hlt
  · have : j = k - 1 := by omega
    subst this
    exact Int.le_refl _

theorem Inv.lit_rng {T : List TriT} {L : List LitT} {z : Int} {C : List W3} {ends : List Int} {lit : List Bool} (h : Inv T L z C ends lit) : ∀ l ∈ L, 0 ≤ l.1 ∧ l.1 < T.length := by
  intro l hl
  obtain ⟨_, k, hk, _, h1, h2⟩ := h.li l hl
  have := h.prev_nonneg hk
  omega

theorem Inv.lits {T : List TriT} {L : List LitT} {z : Int} {C : List W3} {ends : List Int} {lit : List Bool} (h : Inv T L z C ends lit) : L.length ≤ T.length := lits_le h.nd h.lit_rng

abbrev cam0 : CamT := ((0, 0, 4096), (0, 0, 0), (0, 1024, 0), 1024, 0, 1024)
abbrev mt0 : MatT := ((512, 512, 512), (0, 0, 0), 512)

theorem Inv.ok {T : List TriT} {L : List LitT} {z : Int} {C : List W3} {ends : List Int} {lit : List Bool} (h : Inv T L z C ends lit) : okS ([mt0], T, L, z, C, cam0, 1, 512) := by
  have h1 := h.lits
  have h2 := h.tl
  refine ⟨bigB_false.2 ⟨by simp, h2, by dsimp only; omega, ?_⟩, ?_, h.tri, ?_, h.nd, ?_, ?_, ?_⟩
  · dsimp only
    rcases h.sky with ⟨rfl, _⟩ | ⟨rfl, _⟩ <;> omega
  · intro m hm
    rw [List.mem_singleton] at hm
    subst hm
    show matW mt0 0 = none
    decide +kernel
  · intro l hl
    obtain ⟨g, _⟩ := h.li l hl
    have := h.lit_rng l hl
    exact ⟨this.1, this.2, g⟩
  · dsimp only
    rcases h.sky with ⟨rfl, rfl⟩ | ⟨rfl, rfl⟩ <;> simp
  · intro c hc
    dsimp only at hc
    rcases h.sky with ⟨_, rfl⟩ | ⟨_, rfl⟩
    · simp at hc
    · rw [(List.mem_replicate.1 hc).2]
      decide
  · rw [show camW ([mt0], T, L, z, C, cam0, 1, 512) = camW ([], [], [], 0, [], cam0, 1, 512) from cam_same rfl]
    decide +kernel

/-! ### What is done to it -/
theorem Inv.put {T : List TriT} {L : List LitT} {z : Int} {C : List W3} {ends : List Int} {lit : List Bool} (h : Inv T L z C ends lit) {N : List TriT} (hN : ∀ t ∈ N, triG 1 t) (hl : T.length + N.length ≤ 512) :
    Inv (T ++ N) L z C (ends ++ [((T.length + N.length : Nat) : Int)]) (lit ++ [false]) where
  tri t ht := (List.mem_append.1 ht).elim (h.tri t) (hN t)
  tl := by rw [List.length_append]; exact hl
  en := by rw [List.length_append, List.length_append, h.en]; rfl
  mono := by
    rw [List.pairwise_append]
    refine ⟨h.mono, List.pairwise_singleton _ _, fun a ha b hb => ?_⟩
    rw [List.mem_singleton] at hb
    have := h.rng a ha
    omega
  rng e he := by
    rw [List.length_append]
    rcases List.mem_append.1 he with he | he
    · have := h.rng e he; omega
    · rw [List.mem_singleton] at he; omega
  li l hl := by
    obtain ⟨g, k, hk, h1, h2, h3⟩ := h.li l hl
    refine ⟨g, k, by rw [List.length_append]; omega, ?_, ?_, ?_⟩
    · rw [List.getD_eq_getElem?_getD, List.getElem?_append_left (by rw [h.en]; exact hk), ← List.getD_eq_getElem?_getD]; exact h1
    · unfold prevE at h2 ⊢
      split
      · rename_i h0; rw [if_pos h0] at h2; exact h2
      · rename_i h0
        rw [if_neg h0] at h2
        rw [List.getD_eq_getElem?_getD, List.getElem?_append_left (by omega), ← List.getD_eq_getElem?_getD]; exact h2
    · rw [List.getD_eq_getElem?_getD, List.getElem?_append_left hk, ← List.getD_eq_getElem?_getD]; exact h3
  nd := h.nd
  sky := h.sky

def newL (f n : Nat) (p : W3) : List LitT := (List.range n).map fun j => (((f + j : Nat) : Int), p)

theorem Inv.shine {T : List TriT} {L : List LitT} {z : Int} {C : List W3} {ends : List Int} {lit : List Bool} (h : Inv T L z C ends lit) {k : Nat} (hk : k < ends.length) (hlit : lit.getD k false = false) {p : W3} (hp : in3 p 0 67108863 = true) {f t : Nat} (hf : prevE ends k = f) (ht : ends.getD k 0 = t) :
    Inv T (L ++ newL f (t - f) p) z C ends (lit.set k true) where
  tri := h.tri
  tl := h.tl
  en := by rw [List.length_set]; exact h.en
  mono := h.mono
  rng := h.rng
  li l hl := by
    rcases List.mem_append.1 hl with hl | hl
    · obtain ⟨g, j, hj, h1, h2, h3⟩ := h.li l hl
      refine ⟨g, j, hj, ?_, h2, h3⟩
      rw [List.getD_eq_getElem?_getD, List.getElem?_set]
      split
      · rename_i hjk; subst hjk; rw [hlit] at h1; cases h1
      · rw [← List.getD_eq_getElem?_getD]; exact h1
    · obtain ⟨j, hj, rfl⟩ := List.mem_map.1 hl
      rw [List.mem_range] at hj
      refine ⟨hp, k, hk, ?_, by rw [hf]; dsimp only; omega, by rw [ht]; dsimp only; omega⟩
      rw [gd (by rw [List.length_set, h.en]; exact hk), List.getElem_set_self]
  nd := by
    rw [List.pairwise_append]
    refine ⟨h.nd, ?_, fun a ha b hb => ?_⟩
    · unfold newL
      rw [List.pairwise_map]
      exact List.pairwise_lt_range.imp fun {a b} hab => by dsimp only; omega
    · obtain ⟨j, hj, rfl⟩ := List.mem_map.1 hb
      rw [List.mem_range] at hj
      obtain ⟨_, q, hq, h1, h2, h3⟩ := h.li a ha
      have hqk : q ≠ k := by rintro rfl; rw [hlit] at h1; cases h1
      dsimp only
      rcases Nat.lt_or_ge q k with hlt | hge
      · have := h.apart hlt hk
        omega
      · have := h.apart (show k < q by omega) hq
        omega
  sky := h.sky

theorem Inv.skies {T : List TriT} {L : List LitT} {z : Int} {C : List W3} {ends : List Int} {lit : List Bool} (h : Inv T L z C ends lit) : Inv T L 2 (List.replicate 16 (0, 0, 0)) ends lit :=
  { h with sky := .inr ⟨rfl, rfl⟩ }

theorem inv0 : Inv [] [] 0 [] [] [] where
  tri := by simp
  tl := by simp
  en := rfl
  mono := .nil
  rng := by simp
  li := by simp
  nd := .nil
  sky := .inl ⟨rfl, rfl⟩
end Go.Proofs.Pen

namespace Go.Proofs.Pen
open Go Go.Proofs

theorem ite_some {α : Type} {b : Bool} {a c : α} : ∃ r, (T.ite b (T.ret a) (T.ret c)).run = some r := by
  cases b
  · exact ⟨c, rfl⟩
  · exact ⟨a, rfl⟩
theorem panel_some (s : P3) : ∃ r, build_panel s = some r := by
  unfold build_panel build_panel.t
  exact ite_some

theorem shape_some (k : Int) (s : P3) : ∃ r, build_shape (k, s) = some r := by
  unfold build_shape build_shape.t
  dsimp only
  rw [tr_ite]
  split
  · obtain ⟨r, hr⟩ := panel_some s
    rw [tr_opt, hr, Option.bind_some]
    exact ⟨_, rfl⟩
  · rw [tr_ite]
    split
    · rw [tr_opt, Box_eq, Option.bind_some]
      split
      · rw [tr_yes (by rfl), tr_opt, Turn_eq (by simp [boxF]) (by simp [boxP]), Option.bind_some]
        exact ⟨_, rfl⟩
      · rw [tr_no (by rfl)]
        exact ⟨_, rfl⟩
    · rw [tr_ite]
      split
      · rw [tr_opt, Box_eq, Option.bind_some]
        exact ⟨_, rfl⟩
      · exact ⟨_, rfl⟩

theorem XMesh_some (m : Mv) (x : Msh) : ∃ q, xform_Mesh (m, x) = some q ∧ (q.2 = 0 → chk q.1 = 0) := by
  refine ⟨_, XMesh_eq m x, ?_⟩
  split
  · rename_i h; intro h0; exact absurd h0 h
  · split
    · intro h0; cases h0
    · split
      · rename_i h; intro h0; exact absurd h0 h
      · rename_i h; intro _; simpa using h

theorem flat_fl {a b c : P3} (ha : bd 1048576 a) (hb : bd 1048576 b) (hc : bd 1048576 c) : flatB (lessW b a) (lessW c a) = decide (fl3 a b c) := by
  obtain ⟨a1, a2, a3, a4, a5, a6⟩ := ha
  obtain ⟨b1, b2, b3, b4, b5, b6⟩ := hb
  obtain ⟨c1, c2, c3, c4, c5, c6⟩ := hc
  unfold flatB lessW
  dsimp only
  rw [W_sub ⟨b1, b2⟩ ⟨a1, a2⟩, W_sub ⟨b3, b4⟩ ⟨a3, a4⟩, W_sub ⟨b5, b6⟩ ⟨a5, a6⟩, W_sub ⟨c1, c2⟩ ⟨a1, a2⟩, W_sub ⟨c3, c4⟩ ⟨a3, a4⟩, W_sub ⟨c5, c6⟩ ⟨a5, a6⟩]
  rw [(W_mul (x := b.2.1 - a.2.1) (y := c.2.2 - a.2.2) (by omega) (by omega)).1, (W_mul (x := b.2.2 - a.2.2) (y := c.2.1 - a.2.1) (by omega) (by omega)).1, (W_mul (x := b.2.2 - a.2.2) (y := c.1 - a.1) (by omega) (by omega)).1, (W_mul (x := b.1 - a.1) (y := c.2.2 - a.2.2) (by omega) (by omega)).1, (W_mul (x := b.1 - a.1) (y := c.2.1 - a.2.1) (by omega) (by omega)).1, (W_mul (x := b.2.1 - a.2.1) (y := c.1 - a.1) (by omega) (by omega)).1]
  rw [Bool.eq_iff_iff]
  simp only [Bool.and_eq_true, beq_iff_eq, decide_eq_true_eq]

theorem in3_bd {p : P3} (h : bd 1048576 p) : in3 p (-1048576) 1048576 = true := by
  obtain ⟨a1, a2, a3, a4, a5, a6⟩ := h
  exact in3_iff.2 ⟨⟨a1, a2⟩, ⟨a3, a4⟩, a5, a6⟩

theorem triG_of {m : Msh} (h : chk m = 0) : ∀ t ∈ m.2.map (triOf m.1 0), triG 1 t := by
  obtain ⟨h1, h2, h3, h4, h5⟩ := chk_zero.1 h
  intro t ht
  obtain ⟨f, hf, rfl⟩ := List.mem_map.1 ht
  have q1 := gp_bd h3 (by decide) f.1
  have q2 := gp_bd h3 (by decide) f.2.1
  have q3 := gp_bd h3 (by decide) f.2.2
  have hfl := List.all_eq_true.1 h5 f hf
  refine ⟨by simp [triOf], by simp [triOf], ?_, ?_⟩
  · unfold triOf
    dsimp only
    rw [in3_bd q1, in3_bd q2, in3_bd q3]; rfl
  · unfold triOf
    dsimp only
    rw [flat_fl q1 q2 q3]
    rw [Bool.not_eq_true'] at hfl
    exact hfl

abbrev Bd := List MatT × List TriT × List LitT × Int × List W3 × CamT × Int × Int × List Int × List Bool × Unit

theorem each_eq (M : List MatT) (T : List TriT) (L : List LitT) (z : Int) (C : List W3) (c : CamT) (k h : Int) (E : List Int) (B : List Bool) (p : W3) (f t : Nat) (hft : f ≤ t) (ht : t ≤ 512) (hL : L.length ≤ 512) :
    eachShine.l0 ((M, T, L, z, C, c, k, h, E, B, ()), (), p, (t : Int), (f : Int), ()) = some (.exit 0, (M, T, L ++ newL f (t - f) p, z, C, c, k, h, E, B, ()), (), p, (t : Int), (t : Int), ()) := by
  have key := iter_count (t := eachShine.t0) (fun j => ((M, T, L ++ newL f j p, z, C, c, k, h, E, B, ()), (), p, (t : Int), ((f + j : Nat) : Int), ())) (e := .exit 0)
    (z := ((M, T, L ++ newL f (t - f) p, z, C, c, k, h, E, B, ()), (), p, (t : Int), (t : Int), ())) (by simp) (t - f) 0 rounds
    (fun j _ hj => by
      have hn : newL f (j + 1) p = newL f j p ++ [(((f + j : Nat) : Int), p)] := by
        unfold newL
        rw [List.range_succ, List.map_append]; rfl
      have hlen : (L ++ newL f j p).length ≤ 2000 := by unfold newL; rw [List.length_append, List.length_map, List.length_range]; omega
      unfold eachShine.t0
      dsimp only
      simp only [List.take_length, take_snoc]
      rw [tr_yes (by simp; omega), tr_yes (decide_eq_true (room (by omega) (by omega))), tr_ret, W_succ (by omega), hn, List.append_assoc]
      rfl)
    (by
      unfold eachShine.t0
      dsimp only
      simp only [List.take_length]
      rw [Nat.zero_add, tr_no (by simp; omega), tr_ret, show f + (t - f) = t by omega])
    (rounds_gt (by omega))
  have e0 : newL f 0 p = [] := rfl
  simp only [e0, List.append_nil, Nat.add_zero] at key
  exact key

theorem and1023 (v : Int) : 0 ≤ W (((BitVec.ofInt IntKind.i64.bits v &&& BitVec.ofInt IntKind.i64.bits 1023).toNat : Nat) : Int) ∧ W (((BitVec.ofInt IntKind.i64.bits v &&& BitVec.ofInt IntKind.i64.bits 1023).toNat : Nat) : Int) ≤ 1023 := by
  have h : (BitVec.ofInt IntKind.i64.bits v &&& BitVec.ofInt IntKind.i64.bits 1023).toNat ≤ 1023 := by
    rw [BitVec.toNat_and]
    exact Nat.le_trans Nat.and_le_right (by decide)
  rw [W_id (by omega) (by omega)]
  omega
end Go.Proofs.Pen

namespace Go.Proofs.Pen
open Go Go.Proofs

abbrev ActT := Int × Int × Int × Int × P3 × P3 × Mv × MatT × List P3

/-- One call. -/
theorem step_ok (l : List ActT) {i : Nat} (hi : i < l.length) (hi30 : i < 30) {T : List TriT} {L : List LitT} {z : Int} {C : List W3} {E : List Int} {B : List Bool} (h : Inv T L z C E B) (hE : E.length ≤ i) :
    ∃ T' L' z' C' E' B', Inv T' L' z' C' E' B' ∧ E'.length ≤ i + 1 ∧
      (law47_BuildRight.t0 (l, ([mt0], T, L, z, C, cam0, 1, 512, E, B, ()), (i : Int), ())).run = some (.normal, l, ([mt0], T', L', z', C', cam0, 1, 512, E', B', ()), ((i + 1 : Nat) : Int), ()) := by
  have hLl := h.lits
  have hTl := h.tl
  have hBl := h.en
  unfold law47_BuildRight.t0
  dsimp only
  rw [tr_yes (by simp; omega), tr_opt, lget_nat _ hi, Option.bind_some, W_succ (by omega)]
  generalize l[i] = a
  obtain ⟨kind, thing, mat, K, size, light, move, m, cells⟩ := a
  simp only [List.take_length]
  have same : ∃ T' L' z' C' E' B', Inv T' L' z' C' E' B' ∧ E'.length ≤ i + 1 ∧ (some (Ex.normal, l, ([mt0], T, L, z, C, cam0, 1, 512, E, B, ()), ((i + 1 : Nat) : Int), ()) : Option (Ex × List ActT × Bd × Int × Unit)) = some (.normal, l, ([mt0], T', L', z', C', cam0, 1, 512, E', B', ()), ((i + 1 : Nat) : Int), ()) :=
    ⟨T, L, z, C, E, B, h, by omega, rfl⟩
  rw [tr_ite]
  by_cases h4 : (kind == 4) = true
  · rw [if_pos h4, tr_ite]
    by_cases hK0 : K < 0
    · rw [if_pos (decide_eq_true hK0), tr_ret]; exact same
    rw [if_neg (by simpa using hK0), tr_ite]
    by_cases hK1 : K ≥ (E.length : Int)
    · rw [if_pos (decide_eq_true hK1), tr_ret]; exact same
    rw [if_neg (by simpa using hK1)]
    obtain ⟨k, rfl⟩ : ∃ k : Nat, K = k := ⟨K.toNat, by omega⟩
    have hkE : k < E.length := by omega
    have hkB : k < B.length := by omega
    rw [tr_yes (by simp; omega), tr_opt, Int.toNat_natCast, Nat.zero_add, List.getElem?_eq_getElem hkB, Option.bind_some, tr_ite]
    by_cases hb : B[k] = true
    · rw [if_pos hb, tr_ret]; exact same
    have hb : B[k] = false := by simpa using hb
    rw [if_neg (by simp [hb]), tr_yes (by simp; omega), tr_opt, Option.bind_some, tr_no (by simp), tr_no (by simpa using hK1), tr_ite]
    have hpn := h.prev_nonneg hkE
    have hp : in3 ((W (((BitVec.ofInt IntKind.i64.bits light.1 &&& BitVec.ofInt IntKind.i64.bits 1023).toNat : Nat) : Int), W (((BitVec.ofInt IntKind.i64.bits light.2.1 &&& BitVec.ofInt IntKind.i64.bits 1023).toNat : Nat) : Int), W (((BitVec.ofInt IntKind.i64.bits light.2.2 &&& BitVec.ofInt IntKind.i64.bits 1023).toNat : Nat) : Int)) : W3) 0 67108863 = true := by
      have a1 := and1023 light.1
      have a2 := and1023 light.2.1
      have a3 := and1023 light.2.2
      exact in3_iff.2 ⟨⟨a1.1, by dsimp only; omega⟩, ⟨a2.1, by dsimp only; omega⟩, a3.1, by dsimp only; omega⟩
    obtain ⟨t, ht⟩ : ∃ t : Nat, E.getD k 0 = t := ⟨(E.getD k 0).toNat, by omega⟩
    obtain ⟨f, hf⟩ : ∃ f : Nat, prevE E k = f := ⟨(prevE E k).toNat, by omega⟩
    have hEk : E[k] = (t : Int) := by rw [← ht, gd hkE]
    have hlit : B.getD k false = false := by rw [gd hkB]; exact hb
    have hnew := h.shine hkE hlit hp hf ht
    have hft : f ≤ t := by omega
    have ht5 : t ≤ 512 := by omega
    have hL5 : L.length ≤ 512 := by omega
    have hsl : (B.set k true).length = B.length := List.length_set
    have htk : List.take B.length (B.set k true) = B.set k true := List.take_of_length_le (by rw [hsl]; exact Nat.le_refl _)
    by_cases hk0 : k = 0
    · have hf0 : f = 0 := by
        unfold prevE at hf; rw [if_pos hk0] at hf; omega
      subst hk0
      subst hf0
      rw [if_pos (by simp), tr_yes (by simp; omega), tr_opt, show (0 + Int.toNat 0) = 0 from rfl, List.getElem?_eq_getElem hkE, Option.bind_some, hEk, htk, tr_opt]
      have he := each_eq [mt0] T L z C cam0 1 512 E (B.set 0 true) (W (((BitVec.ofInt IntKind.i64.bits light.1 &&& BitVec.ofInt IntKind.i64.bits 1023).toNat : Nat) : Int), W (((BitVec.ofInt IntKind.i64.bits light.2.1 &&& BitVec.ofInt IntKind.i64.bits 1023).toNat : Nat) : Int), W (((BitVec.ofInt IntKind.i64.bits light.2.2 &&& BitVec.ofInt IntKind.i64.bits 1023).toNat : Nat) : Int)) 0 t hft ht5 hL5
      have z0 : ((0 : Nat) : Int) = 0 := rfl
      rw [z0] at he
      rw [he, Option.bind_some]
      rw [tr_yes (by rfl), tr_ret]
      exact ⟨_, _, _, _, _, _, hnew, by omega, rfl⟩
    · have hf1 : E[k - 1]'(by omega) = (f : Int) := by
        unfold prevE at hf; rw [if_neg hk0, gd (by omega)] at hf; exact hf
      rw [if_neg (by simpa using hk0), W_id (n := (k : Int) - 1) (by omega) (by omega), tr_yes (by simp; omega), tr_opt, show 0 + ((k : Int) - 1).toNat = k - 1 by omega, List.getElem?_eq_getElem (show k - 1 < E.length by omega), Option.bind_some, hf1, tr_yes (by simp; omega), tr_opt, List.getElem?_eq_getElem hkE, Option.bind_some, hEk, htk, tr_opt]
      have he := each_eq [mt0] T L z C cam0 1 512 E (B.set k true) (W (((BitVec.ofInt IntKind.i64.bits light.1 &&& BitVec.ofInt IntKind.i64.bits 1023).toNat : Nat) : Int), W (((BitVec.ofInt IntKind.i64.bits light.2.1 &&& BitVec.ofInt IntKind.i64.bits 1023).toNat : Nat) : Int), W (((BitVec.ofInt IntKind.i64.bits light.2.2 &&& BitVec.ofInt IntKind.i64.bits 1023).toNat : Nat) : Int)) f t hft ht5 hL5
      rw [he, Option.bind_some]
      rw [tr_yes (by rfl), tr_ret]
      exact ⟨_, _, _, _, _, _, hnew, by omega, rfl⟩
  rw [if_neg h4, tr_ite]
  have skyC : ∃ T' L' z' C' E' B', Inv T' L' z' C' E' B' ∧ E'.length ≤ i + 1 ∧ (if decide (z > 0) = true then some (Ex.normal, l, ([mt0], T, L, z, C, cam0, 1, 512, E, B, ()), ((i + 1 : Nat) : Int), ()) else some (Ex.normal, l, ([mt0], T, L, 2, List.replicate 16 (0, 0, 0), cam0, 1, 512, E, B, ()), ((i + 1 : Nat) : Int), ()) : Option (Ex × List ActT × Bd × Int × Unit)) = some (.normal, l, ([mt0], T', L', z', C', cam0, 1, 512, E', B', ()), ((i + 1 : Nat) : Int), ()) := by
    split
    · exact same
    · exact ⟨_, _, _, _, _, _, h.skies, by omega, rfl⟩
  by_cases h3 : (kind == 3) = true
  · rw [if_pos h3, tr_yes (by decide), tr_no (by rfl), tr_no (by decide), tr_ite, tr_ret, tr_yes (by decide), tr_ret]
    exact skyC
  rw [if_neg h3, tr_ite]
  by_cases h5 : (kind == 5) = true
  · rw [if_pos h5, tr_yes (by decide), tr_no (by rfl), tr_no (by decide), tr_ite, tr_ret, tr_yes (by decide), tr_ret]
    exact skyC
  rw [if_neg h5, tr_ite]
  by_cases h6 : (decide (thing < 1) || decide (thing > 3) || decide ((0 : Int) < 0)) = true
  · rw [if_pos h6, tr_ret]; exact same
  rw [if_neg h6, tr_no (by simp)]
  obtain ⟨r, hr⟩ := shape_some thing size
  rw [tr_opt, hr, Option.bind_some, tr_ite]
  by_cases hr0 : (r.2 == 0) = true
  case neg =>
    rw [if_neg hr0, tr_yes (by simpa using hr0), tr_ret]; exact same
  rw [if_pos hr0]
  obtain ⟨q, hq, hqc⟩ := XMesh_some move r.1
  rw [tr_opt, hq, Option.bind_some, tr_ite]
  by_cases hq0 : (q.2 != 0) = true
  · rw [if_pos hq0, tr_ret]; exact same
  rw [if_neg hq0]
  have hq0 : q.2 = 0 := by simpa using hq0
  have hc := hqc hq0
  obtain ⟨c1, c2, _, _, _⟩ := chk_zero.1 hc
  rw [W_id (n := (T.length : Int) + _) (by omega) (by omega), tr_ite]
  by_cases hbig : (T.length : Int) + (q.1.2.length : Int) > 512
  · rw [if_pos (decide_eq_true hbig), tr_ret]; exact same
  rw [if_neg (by simpa using hbig), tr_opt, Tris_eq, Option.bind_some, if_neg (by simpa using hc)]
  have hnl : (q.1.2.map (triOf q.1.1 0)).length = q.1.2.length := List.length_map _
  dsimp only
  rw [tr_yes (decide_eq_true (show (T.length + (q.1.2.map (triOf q.1.1 0)).length) * 80 ≤ most by unfold most; omega)), tr_yes (decide_eq_true (show (E.length + 1) * 8 ≤ most from room (by omega) (by omega))), tr_yes (decide_eq_true (show (B.length + 1) * 1 ≤ most from room (by omega) (by omega))), tr_ret]
  have hput := h.put (triG_of hc) (by omega)
  rw [List.take_of_length_le (l := T ++ _) (by simp), take_snoc, take_snoc]
  exact ⟨_, _, _, _, _, _, hput, by rw [List.length_append, List.length_singleton]; omega, rfl⟩

theorem BuildRight_law (l : List ActT) : (law47_BuildRight.t l).run = some true := by
  have loop := iter_inv (t := law47_BuildRight.t0) (fun s => ∃ T L z C E B, ∃ i : Nat, s = (l, ([mt0], T, L, z, C, cam0, 1, 512, E, B, ()), (i : Int), ()) ∧ Inv T L z C E B ∧ E.length ≤ i ∧ i ≤ 30) (fun s => 31 - s.2.2.1.toNat)
    (fun e s => e = .exit 0 ∧ ∃ T L z C E B i, s = (l, ([mt0], T, L, z, C, cam0, 1, 512, E, B, ()), i, ()) ∧ Inv T L z C E B)
    (by
      rintro s ⟨T, L, z, C, E, B, i, rfl, h, hE, hi⟩
      by_cases hc : i < l.length ∧ i < 30
      · obtain ⟨T', L', z', C', E', B', h', hE', hr⟩ := step_ok l hc.1 hc.2 h hE
        exact ⟨_, _, hr, .inl ⟨rfl, ⟨T', L', z', C', E', B', i + 1, rfl, h', hE', by omega⟩, by dsimp only; omega⟩⟩
      · refine ⟨_, _, ?_, .inr ⟨?_, rfl, T, L, z, C, E, B, i, rfl, h⟩⟩
        · unfold law47_BuildRight.t0
          dsimp only
          simp only [List.take_length]
          rw [tr_no (by simp; omega), tr_ret]
        · simp)
    rounds (l, ([mt0], [], [], 0, [], cam0, 1, 512, [], [], ()), ((0 : Nat) : Int), ()) ⟨[], [], 0, [], [], [], 0, rfl, inv0, by simp, by omega⟩ (rounds_gt (by omega))
  obtain ⟨e, s, hr, rfl, T, L, z, C, E, B, i, rfl, h⟩ := loop
  have e0 : law47_BuildRight.l0 (l, ([mt0], [], [], 0, [], cam0, 1, 512, [], [], ()), 0, ()) = _ := hr
  have hok := h.ok
  have hLl := h.lits
  have hTl := h.tl
  have hC : C.length ≤ 16 := by rcases h.sky with ⟨_, rfl⟩ | ⟨_, rfl⟩ <;> simp
  have hl : lightB ([mt0], T, L, z, C, cam0, 1, 512) := ⟨by simp, by dsimp only; omega, by dsimp only; omega, by dsimp only; omega⟩
  unfold law47_BuildRight.t
  rw [tr_no rfl, tr_yes (by decide), tr_opt, e0, Option.bind_some]
  dsimp only
  simp only [List.take_length]
  rw [tr_yes (by rfl), tr_opt, Check_eq _ hl, Option.bind_some, wr_none.2 hok, tr_no (by rfl), tr_yes (by decide), tr_yes (decide_eq_true (small60 hl.2.1 (by omega))), tr_yes (decide_eq_true (small60 hl.2.2.1 (by omega))), tr_yes (decide_eq_true (small60 hl.2.2.2 (by omega))), tr_yes (by rfl), tr_opt, RCheck_eq _ hl, Option.bind_some, wr_none.2 hok, tr_ret]
  rfl

theorem BuildRight_all (x : dens [(.sl (.st (.pair TI (.pair TI (.pair TI (.pair TI (.pair TP (.pair TP (.pair TMove (.pair TMatD (.sl TP)))))))))))]) (_ : insAll [(.sl (.st (.pair TI (.pair TI (.pair TI (.pair TI (.pair TP (.pair TP (.pair TMove (.pair TMatD (.sl TP)))))))))))] x) : (law47_BuildRight.t x).run = some true := BuildRight_law x
end Go.Proofs.Pen
