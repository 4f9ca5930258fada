/- A part of the proof that the law ParsePrints is true of every input: models of the functions that the law reaches, and what holds of them. -/
import Derived.KernelRfl
import Derived.Test.YtncgifjccpngfaaGreatDoorPenKit0
import Derived.Test.YtncgifjccpngfaaGreatDoorPenKit1
import Derived.Test.YtncgifjccpngfaaGreatDoorPenKit2
import Derived.Test.YtncgifjccpngfaaGreatDoorPenKit3
import Derived.Test.YtncgifjccpngfaaGreatDoorPenParsePrints4
import Derived.Test.YtncgifjccpngfaaGreatDoorPenParsePrints5
namespace Go.Proofs.Pen
open Go Go.Proofs
noncomputable def parse_Parse.deeps : Deeps := { D := [32, 53, 54, 78, 52, 34, 33], C := [], frz := false, S := extSn (fun _ _ => noS) 53 7 (tabS numLoop.S) }
theorem parse_Parse.deepsOk : LoopsOK Tryz.prog parse_Parse.deeps.S := (loops_extn (loops_none _) Tryz.func53 numLoop.tab)
noncomputable def parse_Parse.tabl : DTab := (tbExt tb 33 (freshD scene_Check.q))
theorem parse_Parse.tablOk : TBOK Tryz.prog parse_Parse.tabl := (tb_ext tbOk (fresh_deep scene_Check.okF))
def parse_Parse.L0 : List (Nat × Lay) := [(2, .box TScn), (3, .val TE), (4, .obx [.own TMatD, .own TTriD, .own TLitD, .dat TI, .own TP, .dat TCam, .dat TI, .dat TI, .mpi, .dat TI, .dat (.sl .str)]), (18, .val (.sl (.st (.pair TI (.sl .str))))), (19, .val TI), (20, .val TI)]
noncomputable def parse_Parse.t0 (x : ((List ((Int × Int × Int) × (Int × Int × Int) × Int)) × (List ((Int × Int × Int) × (Int × Int × Int) × (Int × Int × Int) × Int)) × (List (Int × Int × Int × Int)) × Int × (List (Int × Int × Int)) × ((Int × Int × Int) × (Int × Int × Int) × (Int × Int × Int) × Int × Int × Int) × Int × Int) × ErrD × (List ((Int × Int × Int) × (Int × Int × Int) × Int) × List ((Int × Int × Int) × (Int × Int × Int) × (Int × Int × Int) × Int) × List (Int × Int × Int × Int) × Int × List (Int × Int × Int) × ((Int × Int × Int) × (Int × Int × Int) × (Int × Int × Int) × Int × Int × Int) × Int × Int × List (ByteArray × Bool) × Int × (List (ByteArray)) × Unit) × (List (Int × List (ByteArray))) × Int × Int × Unit) : T (Ex × ((List ((Int × Int × Int) × (Int × Int × Int) × Int)) × (List ((Int × Int × Int) × (Int × Int × Int) × (Int × Int × Int) × Int)) × (List (Int × Int × Int × Int)) × Int × (List (Int × Int × Int)) × ((Int × Int × Int) × (Int × Int × Int) × (Int × Int × Int) × Int × Int × Int) × Int × Int) × ErrD × (List ((Int × Int × Int) × (Int × Int × Int) × Int) × List ((Int × Int × Int) × (Int × Int × Int) × (Int × Int × Int) × Int) × List (Int × Int × Int × Int) × Int × List (Int × Int × Int) × ((Int × Int × Int) × (Int × Int × Int) × (Int × Int × Int) × Int × Int × Int) × Int × Int × List (ByteArray × Bool) × Int × (List (ByteArray)) × Unit) × (List (Int × List (ByteArray))) × Int × Int × Unit) := T.ite (decide (x.2.2.2.2.2.1 < x.2.2.2.2.1)) (T.opt (lget x.2.2.2.1 x.2.2.2.2.2.1) fun y => T.opt (lget y.2 (0 : Int)) fun y_1 => T.opt (parse_takes y_1) fun y_2 => T.ite (!y_2.snd.snd) (T.opt (fault_New ((15 : Int), y.1)) fun y_3 => T.opt (fault_Wrap (y_3, (9 : Int), (0 : Int))) fun y_4 => T.ite (!y_4.isNil) (T.ret (Ex.ret, ([], [], [], (0 : Int), [], (((0 : Int), (0 : Int), (0 : Int)), ((0 : Int), (0 : Int), (0 : Int)), ((0 : Int), (0 : Int), (0 : Int)), (0 : Int), (0 : Int), (0 : Int)), (0 : Int), (0 : Int)), y_4, (List.take x.2.2.1.1.length x.2.2.1.1, List.take x.2.2.1.2.1.length x.2.2.1.2.1, List.take x.2.2.1.2.2.1.length x.2.2.1.2.2.1, x.2.2.1.2.2.2.1, List.take x.2.2.1.2.2.2.2.1.length x.2.2.1.2.2.2.2.1, x.2.2.1.2.2.2.2.2.1, x.2.2.1.2.2.2.2.2.2.1, x.2.2.1.2.2.2.2.2.2.2.1, x.2.2.1.2.2.2.2.2.2.2.2.1, y.1, y.2, ()), x.2.2.2.1, x.2.2.2.2.1, x.2.2.2.2.2.1, ())) (T.ret (Ex.normal, x.1, x.2.1, (List.take x.2.2.1.1.length x.2.2.1.1, List.take x.2.2.1.2.1.length x.2.2.1.2.1, List.take x.2.2.1.2.2.1.length x.2.2.1.2.2.1, x.2.2.1.2.2.2.1, List.take x.2.2.1.2.2.2.2.1.length x.2.2.1.2.2.2.2.1, x.2.2.1.2.2.2.2.2.1, x.2.2.1.2.2.2.2.2.2.1, x.2.2.1.2.2.2.2.2.2.2.1, x.2.2.1.2.2.2.2.2.2.2.2.1, y.1, y.2, ()), x.2.2.2.1, x.2.2.2.2.1, W (x.2.2.2.2.2.1 + (1 : Int)), ()))) (T.ite (decide ((0 : Int) ≤ (1 : Int)) && decide ((1 : Int) ≤ (↑(List.length y.2) : Int)) && decide ((↑(List.length y.2) : Int) ≤ (↑(List.length y.2) : Int))) (T.ite ((↑(List.take ((↑(List.length y.2) : Int).toNat - Int.toNat (1 : Int)) (List.drop (Int.toNat (1 : Int)) y.2)).length : Int) != y_2.fst) (T.opt (fault_New ((14 : Int), y.1)) fun y_3 => T.opt (fault_Wrap (y_3, (9 : Int), (0 : Int))) fun y_4 => T.ite (!y_4.isNil) (T.ite (!y_4.isNil) (T.ret (Ex.ret, ([], [], [], (0 : Int), [], (((0 : Int), (0 : Int), (0 : Int)), ((0 : Int), (0 : Int), (0 : Int)), ((0 : Int), (0 : Int), (0 : Int)), (0 : Int), (0 : Int), (0 : Int)), (0 : Int), (0 : Int)), y_4, (List.take x.2.2.1.1.length x.2.2.1.1, List.take x.2.2.1.2.1.length x.2.2.1.2.1, List.take x.2.2.1.2.2.1.length x.2.2.1.2.2.1, x.2.2.1.2.2.2.1, List.take x.2.2.1.2.2.2.2.1.length x.2.2.1.2.2.2.2.1, x.2.2.1.2.2.2.2.2.1, x.2.2.1.2.2.2.2.2.2.1, x.2.2.1.2.2.2.2.2.2.2.1, x.2.2.1.2.2.2.2.2.2.2.2.1, y.1, y.2, ()), x.2.2.2.1, x.2.2.2.2.1, x.2.2.2.2.2.1, ())) (T.ret (Ex.normal, x.1, x.2.1, (List.take x.2.2.1.1.length x.2.2.1.1, List.take x.2.2.1.2.1.length x.2.2.1.2.1, List.take x.2.2.1.2.2.1.length x.2.2.1.2.2.1, x.2.2.1.2.2.2.1, List.take x.2.2.1.2.2.2.2.1.length x.2.2.1.2.2.2.2.1, x.2.2.1.2.2.2.2.2.1, x.2.2.1.2.2.2.2.2.2.1, x.2.2.1.2.2.2.2.2.2.2.1, x.2.2.1.2.2.2.2.2.2.2.2.1, y.1, y.2, ()), x.2.2.2.1, x.2.2.2.2.1, W (x.2.2.2.2.2.1 + (1 : Int)), ()))) (T.opt (lget y.2 (0 : Int)) fun y_5 => T.ite (ByteArray.toList y_5 == (ByteArray.mk #[109, 97, 116, 116]).toList) (T.ite (decide ((List.take (4 : Nat) [(0 : Int), (0 : Int), (0 : Int), (1024 : Int)]).length * nat_lit 8 ≤ most)) (T.opt (parse_point (List.take (List.take (4 : Nat) [(0 : Int), (0 : Int), (0 : Int), (1024 : Int)]).length (List.take (4 : Nat) [(0 : Int), (0 : Int), (0 : Int), (1024 : Int)]))) fun y_6 => T.ite (decide ((0 : Int) ≤ (3 : Int)) && decide ((3 : Int) ≤ (↑(List.take (4 : Nat) [(0 : Int), (0 : Int), (0 : Int), (1024 : Int)]).length : Int)) && decide ((↑(List.take (4 : Nat) [(0 : Int), (0 : Int), (0 : Int), (1024 : Int)]).length : Int) ≤ (↑(List.take (4 : Nat) [(0 : Int), (0 : Int), (0 : Int), (1024 : Int)]).length : Int))) (T.opt (parse_point (List.take ((↑(List.take (4 : Nat) [(0 : Int), (0 : Int), (0 : Int), (1024 : Int)]).length : Int).toNat - Int.toNat (3 : Int)) (List.drop ((0 : Nat) + Int.toNat (3 : Int)) (List.take (4 : Nat) [(0 : Int), (0 : Int), (0 : Int), (1024 : Int)])))) fun y_7 => T.ite (decide ((0 : Int) ≤ (6 : Int)) && decide ((6 : Int) < (↑(List.take (4 : Nat) [(0 : Int), (0 : Int), (0 : Int), (1024 : Int)]).length : Int))) (T.opt (List.take (4 : Nat) [(0 : Int), (0 : Int), (0 : Int), (1024 : Int)])[(0 : Nat) + Int.toNat (6 : Int)]? fun y_8 => T.ite (decide ((x.2.2.1.1.length + (1 : Nat)) * nat_lit 56 ≤ most)) (T.ite false (T.ret (Ex.ret, ([], [], [], (0 : Int), [], (((0 : Int), (0 : Int), (0 : Int)), ((0 : Int), (0 : Int), (0 : Int)), ((0 : Int), (0 : Int), (0 : Int)), (0 : Int), (0 : Int), (0 : Int)), (0 : Int), (0 : Int)), ErrD.nil, (List.take (x.2.2.1.1.length + (1 : Nat)) (List.take x.2.2.1.1.length x.2.2.1.1 ++ [(y_6, y_7, y_8)]), List.take x.2.2.1.2.1.length x.2.2.1.2.1, List.take x.2.2.1.2.2.1.length x.2.2.1.2.2.1, x.2.2.1.2.2.2.1, List.take x.2.2.1.2.2.2.2.1.length x.2.2.1.2.2.2.2.1, x.2.2.1.2.2.2.2.2.1, x.2.2.1.2.2.2.2.2.2.1, x.2.2.1.2.2.2.2.2.2.2.1, x.2.2.1.2.2.2.2.2.2.2.2.1, y.1, y.2, ()), x.2.2.2.1, x.2.2.2.2.1, x.2.2.2.2.2.1, ())) (T.ret (Ex.normal, x.1, x.2.1, (List.take (x.2.2.1.1.length + (1 : Nat)) (List.take x.2.2.1.1.length x.2.2.1.1 ++ [(y_6, y_7, y_8)]), List.take x.2.2.1.2.1.length x.2.2.1.2.1, List.take x.2.2.1.2.2.1.length x.2.2.1.2.2.1, x.2.2.1.2.2.2.1, List.take x.2.2.1.2.2.2.2.1.length x.2.2.1.2.2.2.2.1, x.2.2.1.2.2.2.2.2.1, x.2.2.1.2.2.2.2.2.2.1, x.2.2.1.2.2.2.2.2.2.2.1, x.2.2.1.2.2.2.2.2.2.2.2.1, y.1, y.2, ()), x.2.2.2.1, x.2.2.2.2.1, W (x.2.2.2.2.2.1 + (1 : Int)), ()))) T.fail) T.fail) T.fail) T.fail) (T.ite (ByteArray.toList y_5 == (ByteArray.mk #[109, 97, 116]).toList) (T.opt (parse_point []) fun y => T.ite (decide ((0 : Int) ≤ (3 : Int)) && decide ((3 : Int) ≤ (↑(0 : Nat) : Int)) && decide ((↑(0 : Nat) : Int) ≤ (↑(0 : Nat) : Int))) (T.opt (parse_point []) fun y => T.fail) T.fail) (T.ite (ByteArray.toList y_5 == (ByteArray.mk #[116, 114, 105]).toList) (T.ite (decide ((0 : Int) ≤ (1 : Int)) && decide ((1 : Int) ≤ (↑(0 : Nat) : Int)) && decide ((↑(0 : Nat) : Int) ≤ (↑(0 : Nat) : Int))) (T.opt (parse_point []) fun y => T.ite (decide ((0 : Int) ≤ (4 : Int)) && decide ((4 : Int) ≤ (↑(0 : Nat) : Int)) && decide ((↑(0 : Nat) : Int) ≤ (↑(0 : Nat) : Int))) (T.opt (parse_point []) fun y => T.ite (decide ((0 : Int) ≤ (7 : Int)) && decide ((7 : Int) ≤ (↑(0 : Nat) : Int)) && decide ((↑(0 : Nat) : Int) ≤ (↑(0 : Nat) : Int))) (T.opt (parse_point []) fun y => T.fail) T.fail) T.fail) T.fail) (T.ite (ByteArray.toList y_5 == (ByteArray.mk #[108, 105, 103, 104, 116]).toList) T.fail (T.ite (ByteArray.toList y_5 == (ByteArray.mk #[99, 101, 108, 108]).toList) (T.opt (parse_point []) fun y_6 => T.ite (decide ((x.2.2.1.2.2.2.2.1.length + (1 : Nat)) * nat_lit 24 ≤ most)) (T.ite false (T.ret (Ex.ret, ([], [], [], (0 : Int), [], (((0 : Int), (0 : Int), (0 : Int)), ((0 : Int), (0 : Int), (0 : Int)), ((0 : Int), (0 : Int), (0 : Int)), (0 : Int), (0 : Int), (0 : Int)), (0 : Int), (0 : Int)), ErrD.nil, (List.take x.2.2.1.1.length x.2.2.1.1, List.take x.2.2.1.2.1.length x.2.2.1.2.1, List.take x.2.2.1.2.2.1.length x.2.2.1.2.2.1, x.2.2.1.2.2.2.1, List.take (x.2.2.1.2.2.2.2.1.length + (1 : Nat)) (List.take x.2.2.1.2.2.2.2.1.length x.2.2.1.2.2.2.2.1 ++ [y_6]), x.2.2.1.2.2.2.2.2.1, x.2.2.1.2.2.2.2.2.2.1, x.2.2.1.2.2.2.2.2.2.2.1, x.2.2.1.2.2.2.2.2.2.2.2.1, y.1, y.2, ()), x.2.2.2.1, x.2.2.2.2.1, x.2.2.2.2.2.1, ())) (T.ret (Ex.normal, x.1, x.2.1, (List.take x.2.2.1.1.length x.2.2.1.1, List.take x.2.2.1.2.1.length x.2.2.1.2.1, List.take x.2.2.1.2.2.1.length x.2.2.1.2.2.1, x.2.2.1.2.2.2.1, List.take (x.2.2.1.2.2.2.2.1.length + (1 : Nat)) (List.take x.2.2.1.2.2.2.2.1.length x.2.2.1.2.2.2.2.1 ++ [y_6]), x.2.2.1.2.2.2.2.2.1, x.2.2.1.2.2.2.2.2.2.1, x.2.2.1.2.2.2.2.2.2.2.1, x.2.2.1.2.2.2.2.2.2.2.2.1, y.1, y.2, ()), x.2.2.2.1, x.2.2.2.2.1, W (x.2.2.2.2.2.1 + (1 : Int)), ()))) T.fail) (T.ite (ByteArray.toList y_5 == (ByteArray.mk #[115, 107, 121]).toList) T.fail (T.ite (ByteArray.toList y_5 == (ByteArray.mk #[102, 105, 108, 116, 101, 114]).toList) T.fail (T.ite (ByteArray.toList y_5 == (ByteArray.mk #[112, 105, 110, 104, 111, 108, 101]).toList) (T.ite (decide ((List.take (2 : Nat) [(0 : Int), (1024 : Int)]).length * nat_lit 8 ≤ most)) (T.opt (parse_point (List.take (List.take (2 : Nat) [(0 : Int), (1024 : Int)]).length (List.take (2 : Nat) [(0 : Int), (1024 : Int)]))) fun y_6 => T.ite (decide ((0 : Int) ≤ (3 : Int)) && decide ((3 : Int) ≤ (↑(List.take (2 : Nat) [(0 : Int), (1024 : Int)]).length : Int)) && decide ((↑(List.take (2 : Nat) [(0 : Int), (1024 : Int)]).length : Int) ≤ (↑(List.take (2 : Nat) [(0 : Int), (1024 : Int)]).length : Int))) (T.opt (parse_point (List.take ((↑(List.take (2 : Nat) [(0 : Int), (1024 : Int)]).length : Int).toNat - Int.toNat (3 : Int)) (List.drop ((0 : Nat) + Int.toNat (3 : Int)) (List.take (2 : Nat) [(0 : Int), (1024 : Int)])))) fun y_7 => T.ite (decide ((0 : Int) ≤ (6 : Int)) && decide ((6 : Int) ≤ (↑(List.take (2 : Nat) [(0 : Int), (1024 : Int)]).length : Int)) && decide ((↑(List.take (2 : Nat) [(0 : Int), (1024 : Int)]).length : Int) ≤ (↑(List.take (2 : Nat) [(0 : Int), (1024 : Int)]).length : Int))) (T.opt (parse_point (List.take ((↑(List.take (2 : Nat) [(0 : Int), (1024 : Int)]).length : Int).toNat - Int.toNat (6 : Int)) (List.drop ((0 : Nat) + Int.toNat (6 : Int)) (List.take (2 : Nat) [(0 : Int), (1024 : Int)])))) fun y_8 => T.ite (decide ((0 : Int) ≤ (9 : Int)) && decide ((9 : Int) < (↑(List.take (2 : Nat) [(0 : Int), (1024 : Int)]).length : Int))) (T.opt (List.take (2 : Nat) [(0 : Int), (1024 : Int)])[(0 : Nat) + Int.toNat (9 : Int)]? fun y_9 => T.ite (decide ((0 : Int) ≤ (10 : Int)) && decide ((10 : Int) < (↑(List.take (2 : Nat) [(0 : Int), (1024 : Int)]).length : Int))) (T.opt (List.take (2 : Nat) [(0 : Int), (1024 : Int)])[(0 : Nat) + Int.toNat (10 : Int)]? fun y_10 => T.ite (decide ((0 : Int) ≤ (11 : Int)) && decide ((11 : Int) < (↑(List.take (2 : Nat) [(0 : Int), (1024 : Int)]).length : Int))) (T.opt (List.take (2 : Nat) [(0 : Int), (1024 : Int)])[(0 : Nat) + Int.toNat (11 : Int)]? fun y_11 => T.ite ((mget x.2.2.1.2.2.2.2.2.2.2.2.1 (ByteArray.mk #[99, 97, 109, 101, 114, 97])).getD false) (T.opt (fault_New ((2 : Int), y.1)) fun y_12 => T.opt (fault_Wrap (y_12, (9 : Int), (0 : Int))) fun y_13 => T.ite (!y_13.isNil) (T.ret (Ex.ret, ([], [], [], (0 : Int), [], (((0 : Int), (0 : Int), (0 : Int)), ((0 : Int), (0 : Int), (0 : Int)), ((0 : Int), (0 : Int), (0 : Int)), (0 : Int), (0 : Int), (0 : Int)), (0 : Int), (0 : Int)), y_13, (List.take x.2.2.1.1.length x.2.2.1.1, List.take x.2.2.1.2.1.length x.2.2.1.2.1, List.take x.2.2.1.2.2.1.length x.2.2.1.2.2.1, x.2.2.1.2.2.2.1, List.take x.2.2.1.2.2.2.2.1.length x.2.2.1.2.2.2.2.1, (y_6, y_7, y_8, y_9, y_10, y_11), x.2.2.1.2.2.2.2.2.2.1, x.2.2.1.2.2.2.2.2.2.2.1, x.2.2.1.2.2.2.2.2.2.2.2.1, y.1, y.2, ()), x.2.2.2.1, x.2.2.2.2.1, x.2.2.2.2.2.1, ())) (T.ret (Ex.normal, x.1, x.2.1, (List.take x.2.2.1.1.length x.2.2.1.1, List.take x.2.2.1.2.1.length x.2.2.1.2.1, List.take x.2.2.1.2.2.1.length x.2.2.1.2.2.1, x.2.2.1.2.2.2.1, List.take x.2.2.1.2.2.2.2.1.length x.2.2.1.2.2.2.2.1, (y_6, y_7, y_8, y_9, y_10, y_11), x.2.2.1.2.2.2.2.2.2.1, x.2.2.1.2.2.2.2.2.2.2.1, x.2.2.1.2.2.2.2.2.2.2.2.1, y.1, y.2, ()), x.2.2.2.1, x.2.2.2.2.1, W (x.2.2.2.2.2.1 + (1 : Int)), ()))) (T.ite false (T.ret (Ex.ret, ([], [], [], (0 : Int), [], (((0 : Int), (0 : Int), (0 : Int)), ((0 : Int), (0 : Int), (0 : Int)), ((0 : Int), (0 : Int), (0 : Int)), (0 : Int), (0 : Int), (0 : Int)), (0 : Int), (0 : Int)), ErrD.nil, (List.take x.2.2.1.1.length x.2.2.1.1, List.take x.2.2.1.2.1.length x.2.2.1.2.1, List.take x.2.2.1.2.2.1.length x.2.2.1.2.2.1, x.2.2.1.2.2.2.1, List.take x.2.2.1.2.2.2.2.1.length x.2.2.1.2.2.2.2.1, (y_6, y_7, y_8, y_9, y_10, y_11), x.2.2.1.2.2.2.2.2.2.1, x.2.2.1.2.2.2.2.2.2.2.1, mset x.2.2.1.2.2.2.2.2.2.2.2.1 (ByteArray.mk #[99, 97, 109, 101, 114, 97]) true, y.1, y.2, ()), x.2.2.2.1, x.2.2.2.2.1, x.2.2.2.2.2.1, ())) (T.ret (Ex.normal, x.1, x.2.1, (List.take x.2.2.1.1.length x.2.2.1.1, List.take x.2.2.1.2.1.length x.2.2.1.2.1, List.take x.2.2.1.2.2.1.length x.2.2.1.2.2.1, x.2.2.1.2.2.2.1, List.take x.2.2.1.2.2.2.2.1.length x.2.2.1.2.2.2.2.1, (y_6, y_7, y_8, y_9, y_10, y_11), x.2.2.1.2.2.2.2.2.2.1, x.2.2.1.2.2.2.2.2.2.2.1, mset x.2.2.1.2.2.2.2.2.2.2.2.1 (ByteArray.mk #[99, 97, 109, 101, 114, 97]) true, y.1, y.2, ()), x.2.2.2.1, x.2.2.2.2.1, W (x.2.2.2.2.2.1 + (1 : Int)), ())))) T.fail) T.fail) T.fail) T.fail) T.fail) T.fail) (T.opt (parse_point []) fun y => T.ite (decide ((0 : Int) ≤ (3 : Int)) && decide ((3 : Int) ≤ (↑(0 : Nat) : Int)) && decide ((↑(0 : Nat) : Int) ≤ (↑(0 : Nat) : Int))) (T.opt (parse_point []) fun y => T.ite (decide ((0 : Int) ≤ (6 : Int)) && decide ((6 : Int) ≤ (↑(0 : Nat) : Int)) && decide ((↑(0 : Nat) : Int) ≤ (↑(0 : Nat) : Int))) (T.opt (parse_point []) fun y => T.fail) T.fail) T.fail)))))))))) (T.opt (numLoop.l0 (x.1, (List.take x.2.2.1.1.length x.2.2.1.1, List.take x.2.2.1.2.1.length x.2.2.1.2.1, List.take x.2.2.1.2.2.1.length x.2.2.1.2.2.1, x.2.2.1.2.2.2.1, List.take x.2.2.1.2.2.2.2.1.length x.2.2.1.2.2.2.2.1, x.2.2.1.2.2.2.2.2.1, x.2.2.1.2.2.2.2.2.2.1, x.2.2.1.2.2.2.2.2.2.2.1, x.2.2.1.2.2.2.2.2.2.2.2.1, y.1, y.2, ()), y_2.snd.fst, [], ErrD.nil, [], List.take ((↑(List.length y.2) : Int).toNat - Int.toNat (1 : Int)) (List.drop (Int.toNat (1 : Int)) y.2), (↑(List.take ((↑(List.length y.2) : Int).toNat - Int.toNat (1 : Int)) (List.drop (Int.toNat (1 : Int)) y.2)).length : Int), (0 : Int), ())) fun y => T.ite (exEq y.1 (Ex.exit (0 : Nat))) (T.ite false (T.ite false (T.ret (Ex.ret, ([], [], [], (0 : Int), [], (((0 : Int), (0 : Int), (0 : Int)), ((0 : Int), (0 : Int), (0 : Int)), ((0 : Int), (0 : Int), (0 : Int)), (0 : Int), (0 : Int), (0 : Int)), (0 : Int), (0 : Int)), ErrD.nil, (List.take y.2.2.1.1.length y.2.2.1.1, List.take y.2.2.1.2.1.length y.2.2.1.2.1, List.take y.2.2.1.2.2.1.length y.2.2.1.2.2.1, y.2.2.1.2.2.2.1, List.take y.2.2.1.2.2.2.2.1.length y.2.2.1.2.2.2.2.1, y.2.2.1.2.2.2.2.2.1, y.2.2.1.2.2.2.2.2.2.1, y.2.2.1.2.2.2.2.2.2.2.1, y.2.2.1.2.2.2.2.2.2.2.2.1, y.2.2.1.2.2.2.2.2.2.2.2.2.1, y.2.2.1.2.2.2.2.2.2.2.2.2.2.1, ()), x.2.2.2.1, x.2.2.2.2.1, x.2.2.2.2.2.1, ())) (T.ret (Ex.normal, y.2.1, x.2.1, (List.take y.2.2.1.1.length y.2.2.1.1, List.take y.2.2.1.2.1.length y.2.2.1.2.1, List.take y.2.2.1.2.2.1.length y.2.2.1.2.2.1, y.2.2.1.2.2.2.1, List.take y.2.2.1.2.2.2.2.1.length y.2.2.1.2.2.2.2.1, y.2.2.1.2.2.2.2.2.1, y.2.2.1.2.2.2.2.2.2.1, y.2.2.1.2.2.2.2.2.2.2.1, y.2.2.1.2.2.2.2.2.2.2.2.1, y.2.2.1.2.2.2.2.2.2.2.2.2.1, y.2.2.1.2.2.2.2.2.2.2.2.2.2.1, ()), x.2.2.2.1, x.2.2.2.2.1, W (x.2.2.2.2.2.1 + (1 : Int)), ()))) (T.opt (lget y.2.2.1.2.2.2.2.2.2.2.2.2.2.1 (0 : Int)) fun y_3 => T.ite (ByteArray.toList y_3 == (ByteArray.mk #[109, 97, 116, 116]).toList) (T.ite (decide ((y.2.2.2.2.2.2.1.length + (List.take (4 : Nat) [(0 : Int), (0 : Int), (0 : Int), (1024 : Int)]).length) * nat_lit 8 ≤ most)) (T.opt (parse_point (List.take (y.2.2.2.2.2.2.1.length + (List.take (4 : Nat) [(0 : Int), (0 : Int), (0 : Int), (1024 : Int)]).length) (List.take y.2.2.2.2.2.2.1.length y.2.2.2.2.2.2.1 ++ List.take (4 : Nat) [(0 : Int), (0 : Int), (0 : Int), (1024 : Int)]))) fun y_4 => T.ite (decide ((0 : Int) ≤ (3 : Int)) && decide ((3 : Int) ≤ (↑(y.2.2.2.2.2.2.1.length + (List.take (4 : Nat) [(0 : Int), (0 : Int), (0 : Int), (1024 : Int)]).length) : Int)) && decide ((↑(y.2.2.2.2.2.2.1.length + (List.take (4 : Nat) [(0 : Int), (0 : Int), (0 : Int), (1024 : Int)]).length) : Int) ≤ (↑(y.2.2.2.2.2.2.1.length + (List.take (4 : Nat) [(0 : Int), (0 : Int), (0 : Int), (1024 : Int)]).length) : Int))) (T.opt (parse_point (List.take ((↑(y.2.2.2.2.2.2.1.length + (List.take (4 : Nat) [(0 : Int), (0 : Int), (0 : Int), (1024 : Int)]).length) : Int).toNat - Int.toNat (3 : Int)) (List.drop ((0 : Nat) + Int.toNat (3 : Int)) (List.take y.2.2.2.2.2.2.1.length y.2.2.2.2.2.2.1 ++ List.take (4 : Nat) [(0 : Int), (0 : Int), (0 : Int), (1024 : Int)])))) fun y_5 => T.ite (decide ((0 : Int) ≤ (6 : Int)) && decide ((6 : Int) < (↑(y.2.2.2.2.2.2.1.length + (List.take (4 : Nat) [(0 : Int), (0 : Int), (0 : Int), (1024 : Int)]).length) : Int))) (T.opt (List.take y.2.2.2.2.2.2.1.length y.2.2.2.2.2.2.1 ++ List.take (4 : Nat) [(0 : Int), (0 : Int), (0 : Int), (1024 : Int)])[(0 : Nat) + Int.toNat (6 : Int)]? fun y_6 => T.ite (decide ((y.2.2.1.1.length + (1 : Nat)) * nat_lit 56 ≤ most)) (T.ite false (T.ret (Ex.ret, ([], [], [], (0 : Int), [], (((0 : Int), (0 : Int), (0 : Int)), ((0 : Int), (0 : Int), (0 : Int)), ((0 : Int), (0 : Int), (0 : Int)), (0 : Int), (0 : Int), (0 : Int)), (0 : Int), (0 : Int)), ErrD.nil, (List.take (y.2.2.1.1.length + (1 : Nat)) (List.take y.2.2.1.1.length y.2.2.1.1 ++ [(y_4, y_5, y_6)]), List.take y.2.2.1.2.1.length y.2.2.1.2.1, List.take y.2.2.1.2.2.1.length y.2.2.1.2.2.1, y.2.2.1.2.2.2.1, List.take y.2.2.1.2.2.2.2.1.length y.2.2.1.2.2.2.2.1, y.2.2.1.2.2.2.2.2.1, y.2.2.1.2.2.2.2.2.2.1, y.2.2.1.2.2.2.2.2.2.2.1, y.2.2.1.2.2.2.2.2.2.2.2.1, y.2.2.1.2.2.2.2.2.2.2.2.2.1, y.2.2.1.2.2.2.2.2.2.2.2.2.2.1, ()), x.2.2.2.1, x.2.2.2.2.1, x.2.2.2.2.2.1, ())) (T.ret (Ex.normal, y.2.1, x.2.1, (List.take (y.2.2.1.1.length + (1 : Nat)) (List.take y.2.2.1.1.length y.2.2.1.1 ++ [(y_4, y_5, y_6)]), List.take y.2.2.1.2.1.length y.2.2.1.2.1, List.take y.2.2.1.2.2.1.length y.2.2.1.2.2.1, y.2.2.1.2.2.2.1, List.take y.2.2.1.2.2.2.2.1.length y.2.2.1.2.2.2.2.1, y.2.2.1.2.2.2.2.2.1, y.2.2.1.2.2.2.2.2.2.1, y.2.2.1.2.2.2.2.2.2.2.1, y.2.2.1.2.2.2.2.2.2.2.2.1, y.2.2.1.2.2.2.2.2.2.2.2.2.1, y.2.2.1.2.2.2.2.2.2.2.2.2.2.1, ()), x.2.2.2.1, x.2.2.2.2.1, W (x.2.2.2.2.2.1 + (1 : Int)), ()))) T.fail) T.fail) T.fail) T.fail) (T.ite (ByteArray.toList y_3 == (ByteArray.mk #[109, 97, 116]).toList) (T.opt (parse_point (List.take y.2.2.2.2.2.2.1.length y.2.2.2.2.2.2.1)) fun y_4 => T.ite (decide ((0 : Int) ≤ (3 : Int)) && decide ((3 : Int) ≤ (↑y.2.2.2.2.2.2.1.length : Int)) && decide ((↑y.2.2.2.2.2.2.1.length : Int) ≤ (↑y.2.2.2.2.2.2.1.length : Int))) (T.opt (parse_point (List.take ((↑y.2.2.2.2.2.2.1.length : Int).toNat - Int.toNat (3 : Int)) (List.drop ((0 : Nat) + Int.toNat (3 : Int)) y.2.2.2.2.2.2.1))) fun y_5 => T.ite (decide ((0 : Int) ≤ (6 : Int)) && decide ((6 : Int) < (↑y.2.2.2.2.2.2.1.length : Int))) (T.opt y.2.2.2.2.2.2.1[(0 : Nat) + Int.toNat (6 : Int)]? fun y_6 => T.ite (decide ((y.2.2.1.1.length + (1 : Nat)) * nat_lit 56 ≤ most)) (T.ite false (T.ret (Ex.ret, ([], [], [], (0 : Int), [], (((0 : Int), (0 : Int), (0 : Int)), ((0 : Int), (0 : Int), (0 : Int)), ((0 : Int), (0 : Int), (0 : Int)), (0 : Int), (0 : Int), (0 : Int)), (0 : Int), (0 : Int)), ErrD.nil, (List.take (y.2.2.1.1.length + (1 : Nat)) (List.take y.2.2.1.1.length y.2.2.1.1 ++ [(y_4, y_5, y_6)]), List.take y.2.2.1.2.1.length y.2.2.1.2.1, List.take y.2.2.1.2.2.1.length y.2.2.1.2.2.1, y.2.2.1.2.2.2.1, List.take y.2.2.1.2.2.2.2.1.length y.2.2.1.2.2.2.2.1, y.2.2.1.2.2.2.2.2.1, y.2.2.1.2.2.2.2.2.2.1, y.2.2.1.2.2.2.2.2.2.2.1, y.2.2.1.2.2.2.2.2.2.2.2.1, y.2.2.1.2.2.2.2.2.2.2.2.2.1, y.2.2.1.2.2.2.2.2.2.2.2.2.2.1, ()), x.2.2.2.1, x.2.2.2.2.1, x.2.2.2.2.2.1, ())) (T.ret (Ex.normal, y.2.1, x.2.1, (List.take (y.2.2.1.1.length + (1 : Nat)) (List.take y.2.2.1.1.length y.2.2.1.1 ++ [(y_4, y_5, y_6)]), List.take y.2.2.1.2.1.length y.2.2.1.2.1, List.take y.2.2.1.2.2.1.length y.2.2.1.2.2.1, y.2.2.1.2.2.2.1, List.take y.2.2.1.2.2.2.2.1.length y.2.2.1.2.2.2.2.1, y.2.2.1.2.2.2.2.2.1, y.2.2.1.2.2.2.2.2.2.1, y.2.2.1.2.2.2.2.2.2.2.1, y.2.2.1.2.2.2.2.2.2.2.2.1, y.2.2.1.2.2.2.2.2.2.2.2.2.1, y.2.2.1.2.2.2.2.2.2.2.2.2.2.1, ()), x.2.2.2.1, x.2.2.2.2.1, W (x.2.2.2.2.2.1 + (1 : Int)), ()))) T.fail) T.fail) T.fail) (T.ite (ByteArray.toList y_3 == (ByteArray.mk #[116, 114, 105]).toList) (T.ite (decide ((0 : Int) ≤ (1 : Int)) && decide ((1 : Int) ≤ (↑y.2.2.2.2.2.2.1.length : Int)) && decide ((↑y.2.2.2.2.2.2.1.length : Int) ≤ (↑y.2.2.2.2.2.2.1.length : Int))) (T.opt (parse_point (List.take ((↑y.2.2.2.2.2.2.1.length : Int).toNat - Int.toNat (1 : Int)) (List.drop ((0 : Nat) + Int.toNat (1 : Int)) y.2.2.2.2.2.2.1))) fun y_4 => T.ite (decide ((0 : Int) ≤ (4 : Int)) && decide ((4 : Int) ≤ (↑y.2.2.2.2.2.2.1.length : Int)) && decide ((↑y.2.2.2.2.2.2.1.length : Int) ≤ (↑y.2.2.2.2.2.2.1.length : Int))) (T.opt (parse_point (List.take ((↑y.2.2.2.2.2.2.1.length : Int).toNat - Int.toNat (4 : Int)) (List.drop ((0 : Nat) + Int.toNat (4 : Int)) y.2.2.2.2.2.2.1))) fun y_5 => T.ite (decide ((0 : Int) ≤ (7 : Int)) && decide ((7 : Int) ≤ (↑y.2.2.2.2.2.2.1.length : Int)) && decide ((↑y.2.2.2.2.2.2.1.length : Int) ≤ (↑y.2.2.2.2.2.2.1.length : Int))) (T.opt (parse_point (List.take ((↑y.2.2.2.2.2.2.1.length : Int).toNat - Int.toNat (7 : Int)) (List.drop ((0 : Nat) + Int.toNat (7 : Int)) y.2.2.2.2.2.2.1))) fun y_6 => T.ite (decide ((0 : Int) ≤ (0 : Int)) && decide ((0 : Int) < (↑y.2.2.2.2.2.2.1.length : Int))) (T.opt y.2.2.2.2.2.2.1[(0 : Nat) + Int.toNat (0 : Int)]? fun y_7 => T.ite (decide ((y.2.2.1.2.1.length + (1 : Nat)) * nat_lit 80 ≤ most)) (T.ite false (T.ret (Ex.ret, ([], [], [], (0 : Int), [], (((0 : Int), (0 : Int), (0 : Int)), ((0 : Int), (0 : Int), (0 : Int)), ((0 : Int), (0 : Int), (0 : Int)), (0 : Int), (0 : Int), (0 : Int)), (0 : Int), (0 : Int)), ErrD.nil, (List.take y.2.2.1.1.length y.2.2.1.1, List.take (y.2.2.1.2.1.length + (1 : Nat)) (List.take y.2.2.1.2.1.length y.2.2.1.2.1 ++ [(y_4, y_5, y_6, y_7)]), List.take y.2.2.1.2.2.1.length y.2.2.1.2.2.1, y.2.2.1.2.2.2.1, List.take y.2.2.1.2.2.2.2.1.length y.2.2.1.2.2.2.2.1, y.2.2.1.2.2.2.2.2.1, y.2.2.1.2.2.2.2.2.2.1, y.2.2.1.2.2.2.2.2.2.2.1, y.2.2.1.2.2.2.2.2.2.2.2.1, y.2.2.1.2.2.2.2.2.2.2.2.2.1, y.2.2.1.2.2.2.2.2.2.2.2.2.2.1, ()), x.2.2.2.1, x.2.2.2.2.1, x.2.2.2.2.2.1, ())) (T.ret (Ex.normal, y.2.1, x.2.1, (List.take y.2.2.1.1.length y.2.2.1.1, List.take (y.2.2.1.2.1.length + (1 : Nat)) (List.take y.2.2.1.2.1.length y.2.2.1.2.1 ++ [(y_4, y_5, y_6, y_7)]), List.take y.2.2.1.2.2.1.length y.2.2.1.2.2.1, y.2.2.1.2.2.2.1, List.take y.2.2.1.2.2.2.2.1.length y.2.2.1.2.2.2.2.1, y.2.2.1.2.2.2.2.2.1, y.2.2.1.2.2.2.2.2.2.1, y.2.2.1.2.2.2.2.2.2.2.1, y.2.2.1.2.2.2.2.2.2.2.2.1, y.2.2.1.2.2.2.2.2.2.2.2.2.1, y.2.2.1.2.2.2.2.2.2.2.2.2.2.1, ()), x.2.2.2.1, x.2.2.2.2.1, W (x.2.2.2.2.2.1 + (1 : Int)), ()))) T.fail) T.fail) T.fail) T.fail) T.fail) (T.ite (ByteArray.toList y_3 == (ByteArray.mk #[108, 105, 103, 104, 116]).toList) (T.ite (decide ((0 : Int) ≤ (0 : Int)) && decide ((0 : Int) < (↑y.2.2.2.2.2.2.1.length : Int))) (T.opt y.2.2.2.2.2.2.1[(0 : Nat) + Int.toNat (0 : Int)]? fun y_4 => T.ite (decide ((0 : Int) ≤ (1 : Int)) && decide ((1 : Int) ≤ (↑y.2.2.2.2.2.2.1.length : Int)) && decide ((↑y.2.2.2.2.2.2.1.length : Int) ≤ (↑y.2.2.2.2.2.2.1.length : Int))) (T.opt (parse_point (List.take ((↑y.2.2.2.2.2.2.1.length : Int).toNat - Int.toNat (1 : Int)) (List.drop ((0 : Nat) + Int.toNat (1 : Int)) y.2.2.2.2.2.2.1))) fun y_5 => T.ite (decide ((y.2.2.1.2.2.1.length + (1 : Nat)) * nat_lit 32 ≤ most)) (T.ite false (T.ret (Ex.ret, ([], [], [], (0 : Int), [], (((0 : Int), (0 : Int), (0 : Int)), ((0 : Int), (0 : Int), (0 : Int)), ((0 : Int), (0 : Int), (0 : Int)), (0 : Int), (0 : Int), (0 : Int)), (0 : Int), (0 : Int)), ErrD.nil, (List.take y.2.2.1.1.length y.2.2.1.1, List.take y.2.2.1.2.1.length y.2.2.1.2.1, List.take (y.2.2.1.2.2.1.length + (1 : Nat)) (List.take y.2.2.1.2.2.1.length y.2.2.1.2.2.1 ++ [(y_4, y_5)]), y.2.2.1.2.2.2.1, List.take y.2.2.1.2.2.2.2.1.length y.2.2.1.2.2.2.2.1, y.2.2.1.2.2.2.2.2.1, y.2.2.1.2.2.2.2.2.2.1, y.2.2.1.2.2.2.2.2.2.2.1, y.2.2.1.2.2.2.2.2.2.2.2.1, y.2.2.1.2.2.2.2.2.2.2.2.2.1, y.2.2.1.2.2.2.2.2.2.2.2.2.2.1, ()), x.2.2.2.1, x.2.2.2.2.1, x.2.2.2.2.2.1, ())) (T.ret (Ex.normal, y.2.1, x.2.1, (List.take y.2.2.1.1.length y.2.2.1.1, List.take y.2.2.1.2.1.length y.2.2.1.2.1, List.take (y.2.2.1.2.2.1.length + (1 : Nat)) (List.take y.2.2.1.2.2.1.length y.2.2.1.2.2.1 ++ [(y_4, y_5)]), y.2.2.1.2.2.2.1, List.take y.2.2.1.2.2.2.2.1.length y.2.2.1.2.2.2.2.1, y.2.2.1.2.2.2.2.2.1, y.2.2.1.2.2.2.2.2.2.1, y.2.2.1.2.2.2.2.2.2.2.1, y.2.2.1.2.2.2.2.2.2.2.2.1, y.2.2.1.2.2.2.2.2.2.2.2.2.1, y.2.2.1.2.2.2.2.2.2.2.2.2.2.1, ()), x.2.2.2.1, x.2.2.2.2.1, W (x.2.2.2.2.2.1 + (1 : Int)), ()))) T.fail) T.fail) T.fail) (T.ite (ByteArray.toList y_3 == (ByteArray.mk #[99, 101, 108, 108]).toList) (T.opt (parse_point (List.take y.2.2.2.2.2.2.1.length y.2.2.2.2.2.2.1)) fun y_4 => T.ite (decide ((y.2.2.1.2.2.2.2.1.length + (1 : Nat)) * nat_lit 24 ≤ most)) (T.ite false (T.ret (Ex.ret, ([], [], [], (0 : Int), [], (((0 : Int), (0 : Int), (0 : Int)), ((0 : Int), (0 : Int), (0 : Int)), ((0 : Int), (0 : Int), (0 : Int)), (0 : Int), (0 : Int), (0 : Int)), (0 : Int), (0 : Int)), ErrD.nil, (List.take y.2.2.1.1.length y.2.2.1.1, List.take y.2.2.1.2.1.length y.2.2.1.2.1, List.take y.2.2.1.2.2.1.length y.2.2.1.2.2.1, y.2.2.1.2.2.2.1, List.take (y.2.2.1.2.2.2.2.1.length + (1 : Nat)) (List.take y.2.2.1.2.2.2.2.1.length y.2.2.1.2.2.2.2.1 ++ [y_4]), y.2.2.1.2.2.2.2.2.1, y.2.2.1.2.2.2.2.2.2.1, y.2.2.1.2.2.2.2.2.2.2.1, y.2.2.1.2.2.2.2.2.2.2.2.1, y.2.2.1.2.2.2.2.2.2.2.2.2.1, y.2.2.1.2.2.2.2.2.2.2.2.2.2.1, ()), x.2.2.2.1, x.2.2.2.2.1, x.2.2.2.2.2.1, ())) (T.ret (Ex.normal, y.2.1, x.2.1, (List.take y.2.2.1.1.length y.2.2.1.1, List.take y.2.2.1.2.1.length y.2.2.1.2.1, List.take y.2.2.1.2.2.1.length y.2.2.1.2.2.1, y.2.2.1.2.2.2.1, List.take (y.2.2.1.2.2.2.2.1.length + (1 : Nat)) (List.take y.2.2.1.2.2.2.2.1.length y.2.2.1.2.2.2.2.1 ++ [y_4]), y.2.2.1.2.2.2.2.2.1, y.2.2.1.2.2.2.2.2.2.1, y.2.2.1.2.2.2.2.2.2.2.1, y.2.2.1.2.2.2.2.2.2.2.2.1, y.2.2.1.2.2.2.2.2.2.2.2.2.1, y.2.2.1.2.2.2.2.2.2.2.2.2.2.1, ()), x.2.2.2.1, x.2.2.2.2.1, W (x.2.2.2.2.2.1 + (1 : Int)), ()))) T.fail) (T.ite (ByteArray.toList y_3 == (ByteArray.mk #[115, 107, 121]).toList) (T.ite (decide ((0 : Int) ≤ (0 : Int)) && decide ((0 : Int) < (↑y.2.2.2.2.2.2.1.length : Int))) (T.opt y.2.2.2.2.2.2.1[(0 : Nat) + Int.toNat (0 : Int)]? fun y_4 => T.ite ((mget y.2.2.1.2.2.2.2.2.2.2.2.1 (ByteArray.mk #[115, 107, 121])).getD false) (T.opt (fault_New ((2 : Int), y.2.2.1.2.2.2.2.2.2.2.2.2.1)) fun y_5 => T.opt (fault_Wrap (y_5, (9 : Int), (0 : Int))) fun y_6 => T.ite (!y_6.isNil) (T.ret (Ex.ret, ([], [], [], (0 : Int), [], (((0 : Int), (0 : Int), (0 : Int)), ((0 : Int), (0 : Int), (0 : Int)), ((0 : Int), (0 : Int), (0 : Int)), (0 : Int), (0 : Int), (0 : Int)), (0 : Int), (0 : Int)), y_6, (List.take y.2.2.1.1.length y.2.2.1.1, List.take y.2.2.1.2.1.length y.2.2.1.2.1, List.take y.2.2.1.2.2.1.length y.2.2.1.2.2.1, y_4, List.take y.2.2.1.2.2.2.2.1.length y.2.2.1.2.2.2.2.1, y.2.2.1.2.2.2.2.2.1, y.2.2.1.2.2.2.2.2.2.1, y.2.2.1.2.2.2.2.2.2.2.1, y.2.2.1.2.2.2.2.2.2.2.2.1, y.2.2.1.2.2.2.2.2.2.2.2.2.1, y.2.2.1.2.2.2.2.2.2.2.2.2.2.1, ()), x.2.2.2.1, x.2.2.2.2.1, x.2.2.2.2.2.1, ())) (T.ret (Ex.normal, y.2.1, x.2.1, (List.take y.2.2.1.1.length y.2.2.1.1, List.take y.2.2.1.2.1.length y.2.2.1.2.1, List.take y.2.2.1.2.2.1.length y.2.2.1.2.2.1, y_4, List.take y.2.2.1.2.2.2.2.1.length y.2.2.1.2.2.2.2.1, y.2.2.1.2.2.2.2.2.1, y.2.2.1.2.2.2.2.2.2.1, y.2.2.1.2.2.2.2.2.2.2.1, y.2.2.1.2.2.2.2.2.2.2.2.1, y.2.2.1.2.2.2.2.2.2.2.2.2.1, y.2.2.1.2.2.2.2.2.2.2.2.2.2.1, ()), x.2.2.2.1, x.2.2.2.2.1, W (x.2.2.2.2.2.1 + (1 : Int)), ()))) (T.ite false (T.ret (Ex.ret, ([], [], [], (0 : Int), [], (((0 : Int), (0 : Int), (0 : Int)), ((0 : Int), (0 : Int), (0 : Int)), ((0 : Int), (0 : Int), (0 : Int)), (0 : Int), (0 : Int), (0 : Int)), (0 : Int), (0 : Int)), ErrD.nil, (List.take y.2.2.1.1.length y.2.2.1.1, List.take y.2.2.1.2.1.length y.2.2.1.2.1, List.take y.2.2.1.2.2.1.length y.2.2.1.2.2.1, y_4, List.take y.2.2.1.2.2.2.2.1.length y.2.2.1.2.2.2.2.1, y.2.2.1.2.2.2.2.2.1, y.2.2.1.2.2.2.2.2.2.1, y.2.2.1.2.2.2.2.2.2.2.1, mset y.2.2.1.2.2.2.2.2.2.2.2.1 (ByteArray.mk #[115, 107, 121]) true, y.2.2.1.2.2.2.2.2.2.2.2.2.1, y.2.2.1.2.2.2.2.2.2.2.2.2.2.1, ()), x.2.2.2.1, x.2.2.2.2.1, x.2.2.2.2.2.1, ())) (T.ret (Ex.normal, y.2.1, x.2.1, (List.take y.2.2.1.1.length y.2.2.1.1, List.take y.2.2.1.2.1.length y.2.2.1.2.1, List.take y.2.2.1.2.2.1.length y.2.2.1.2.2.1, y_4, List.take y.2.2.1.2.2.2.2.1.length y.2.2.1.2.2.2.2.1, y.2.2.1.2.2.2.2.2.1, y.2.2.1.2.2.2.2.2.2.1, y.2.2.1.2.2.2.2.2.2.2.1, mset y.2.2.1.2.2.2.2.2.2.2.2.1 (ByteArray.mk #[115, 107, 121]) true, y.2.2.1.2.2.2.2.2.2.2.2.2.1, y.2.2.1.2.2.2.2.2.2.2.2.2.2.1, ()), x.2.2.2.1, x.2.2.2.2.1, W (x.2.2.2.2.2.1 + (1 : Int)), ())))) T.fail) (T.ite (ByteArray.toList y_3 == (ByteArray.mk #[102, 105, 108, 116, 101, 114]).toList) (T.ite (decide ((0 : Int) ≤ (0 : Int)) && decide ((0 : Int) < (↑y.2.2.2.2.2.2.1.length : Int))) (T.opt y.2.2.2.2.2.2.1[(0 : Nat) + Int.toNat (0 : Int)]? fun y_4 => T.ite (decide ((0 : Int) ≤ (1 : Int)) && decide ((1 : Int) < (↑y.2.2.2.2.2.2.1.length : Int))) (T.opt y.2.2.2.2.2.2.1[(0 : Nat) + Int.toNat (1 : Int)]? fun y_5 => T.ite ((mget y.2.2.1.2.2.2.2.2.2.2.2.1 (ByteArray.mk #[102, 105, 108, 116, 101, 114])).getD false) (T.opt (fault_New ((2 : Int), y.2.2.1.2.2.2.2.2.2.2.2.2.1)) fun y_6 => T.opt (fault_Wrap (y_6, (9 : Int), (0 : Int))) fun y_7 => T.ite (!y_7.isNil) (T.ret (Ex.ret, ([], [], [], (0 : Int), [], (((0 : Int), (0 : Int), (0 : Int)), ((0 : Int), (0 : Int), (0 : Int)), ((0 : Int), (0 : Int), (0 : Int)), (0 : Int), (0 : Int), (0 : Int)), (0 : Int), (0 : Int)), y_7, (List.take y.2.2.1.1.length y.2.2.1.1, List.take y.2.2.1.2.1.length y.2.2.1.2.1, List.take y.2.2.1.2.2.1.length y.2.2.1.2.2.1, y.2.2.1.2.2.2.1, List.take y.2.2.1.2.2.2.2.1.length y.2.2.1.2.2.2.2.1, y.2.2.1.2.2.2.2.2.1, y_4, y_5, y.2.2.1.2.2.2.2.2.2.2.2.1, y.2.2.1.2.2.2.2.2.2.2.2.2.1, y.2.2.1.2.2.2.2.2.2.2.2.2.2.1, ()), x.2.2.2.1, x.2.2.2.2.1, x.2.2.2.2.2.1, ())) (T.ret (Ex.normal, y.2.1, x.2.1, (List.take y.2.2.1.1.length y.2.2.1.1, List.take y.2.2.1.2.1.length y.2.2.1.2.1, List.take y.2.2.1.2.2.1.length y.2.2.1.2.2.1, y.2.2.1.2.2.2.1, List.take y.2.2.1.2.2.2.2.1.length y.2.2.1.2.2.2.2.1, y.2.2.1.2.2.2.2.2.1, y_4, y_5, y.2.2.1.2.2.2.2.2.2.2.2.1, y.2.2.1.2.2.2.2.2.2.2.2.2.1, y.2.2.1.2.2.2.2.2.2.2.2.2.2.1, ()), x.2.2.2.1, x.2.2.2.2.1, W (x.2.2.2.2.2.1 + (1 : Int)), ()))) (T.ite false (T.ret (Ex.ret, ([], [], [], (0 : Int), [], (((0 : Int), (0 : Int), (0 : Int)), ((0 : Int), (0 : Int), (0 : Int)), ((0 : Int), (0 : Int), (0 : Int)), (0 : Int), (0 : Int), (0 : Int)), (0 : Int), (0 : Int)), ErrD.nil, (List.take y.2.2.1.1.length y.2.2.1.1, List.take y.2.2.1.2.1.length y.2.2.1.2.1, List.take y.2.2.1.2.2.1.length y.2.2.1.2.2.1, y.2.2.1.2.2.2.1, List.take y.2.2.1.2.2.2.2.1.length y.2.2.1.2.2.2.2.1, y.2.2.1.2.2.2.2.2.1, y_4, y_5, mset y.2.2.1.2.2.2.2.2.2.2.2.1 (ByteArray.mk #[102, 105, 108, 116, 101, 114]) true, y.2.2.1.2.2.2.2.2.2.2.2.2.1, y.2.2.1.2.2.2.2.2.2.2.2.2.2.1, ()), x.2.2.2.1, x.2.2.2.2.1, x.2.2.2.2.2.1, ())) (T.ret (Ex.normal, y.2.1, x.2.1, (List.take y.2.2.1.1.length y.2.2.1.1, List.take y.2.2.1.2.1.length y.2.2.1.2.1, List.take y.2.2.1.2.2.1.length y.2.2.1.2.2.1, y.2.2.1.2.2.2.1, List.take y.2.2.1.2.2.2.2.1.length y.2.2.1.2.2.2.2.1, y.2.2.1.2.2.2.2.2.1, y_4, y_5, mset y.2.2.1.2.2.2.2.2.2.2.2.1 (ByteArray.mk #[102, 105, 108, 116, 101, 114]) true, y.2.2.1.2.2.2.2.2.2.2.2.2.1, y.2.2.1.2.2.2.2.2.2.2.2.2.2.1, ()), x.2.2.2.1, x.2.2.2.2.1, W (x.2.2.2.2.2.1 + (1 : Int)), ())))) T.fail) T.fail) (T.ite (ByteArray.toList y_3 == (ByteArray.mk #[112, 105, 110, 104, 111, 108, 101]).toList) (T.ite (decide ((y.2.2.2.2.2.2.1.length + (List.take (2 : Nat) [(0 : Int), (1024 : Int)]).length) * nat_lit 8 ≤ most)) (T.opt (parse_point (List.take (y.2.2.2.2.2.2.1.length + (List.take (2 : Nat) [(0 : Int), (1024 : Int)]).length) (List.take y.2.2.2.2.2.2.1.length y.2.2.2.2.2.2.1 ++ List.take (2 : Nat) [(0 : Int), (1024 : Int)]))) fun y_4 => T.ite (decide ((0 : Int) ≤ (3 : Int)) && decide ((3 : Int) ≤ (↑(y.2.2.2.2.2.2.1.length + (List.take (2 : Nat) [(0 : Int), (1024 : Int)]).length) : Int)) && decide ((↑(y.2.2.2.2.2.2.1.length + (List.take (2 : Nat) [(0 : Int), (1024 : Int)]).length) : Int) ≤ (↑(y.2.2.2.2.2.2.1.length + (List.take (2 : Nat) [(0 : Int), (1024 : Int)]).length) : Int))) (T.opt (parse_point (List.take ((↑(y.2.2.2.2.2.2.1.length + (List.take (2 : Nat) [(0 : Int), (1024 : Int)]).length) : Int).toNat - Int.toNat (3 : Int)) (List.drop ((0 : Nat) + Int.toNat (3 : Int)) (List.take y.2.2.2.2.2.2.1.length y.2.2.2.2.2.2.1 ++ List.take (2 : Nat) [(0 : Int), (1024 : Int)])))) fun y_5 => T.ite (decide ((0 : Int) ≤ (6 : Int)) && decide ((6 : Int) ≤ (↑(y.2.2.2.2.2.2.1.length + (List.take (2 : Nat) [(0 : Int), (1024 : Int)]).length) : Int)) && decide ((↑(y.2.2.2.2.2.2.1.length + (List.take (2 : Nat) [(0 : Int), (1024 : Int)]).length) : Int) ≤ (↑(y.2.2.2.2.2.2.1.length + (List.take (2 : Nat) [(0 : Int), (1024 : Int)]).length) : Int))) (T.opt (parse_point (List.take ((↑(y.2.2.2.2.2.2.1.length + (List.take (2 : Nat) [(0 : Int), (1024 : Int)]).length) : Int).toNat - Int.toNat (6 : Int)) (List.drop ((0 : Nat) + Int.toNat (6 : Int)) (List.take y.2.2.2.2.2.2.1.length y.2.2.2.2.2.2.1 ++ List.take (2 : Nat) [(0 : Int), (1024 : Int)])))) fun y_6 => T.ite (decide ((0 : Int) ≤ (9 : Int)) && decide ((9 : Int) < (↑(y.2.2.2.2.2.2.1.length + (List.take (2 : Nat) [(0 : Int), (1024 : Int)]).length) : Int))) (T.opt (List.take y.2.2.2.2.2.2.1.length y.2.2.2.2.2.2.1 ++ List.take (2 : Nat) [(0 : Int), (1024 : Int)])[(0 : Nat) + Int.toNat (9 : Int)]? fun y_7 => T.ite (decide ((0 : Int) ≤ (10 : Int)) && decide ((10 : Int) < (↑(y.2.2.2.2.2.2.1.length + (List.take (2 : Nat) [(0 : Int), (1024 : Int)]).length) : Int))) (T.opt (List.take y.2.2.2.2.2.2.1.length y.2.2.2.2.2.2.1 ++ List.take (2 : Nat) [(0 : Int), (1024 : Int)])[(0 : Nat) + Int.toNat (10 : Int)]? fun y_8 => T.ite (decide ((0 : Int) ≤ (11 : Int)) && decide ((11 : Int) < (↑(y.2.2.2.2.2.2.1.length + (List.take (2 : Nat) [(0 : Int), (1024 : Int)]).length) : Int))) (T.opt (List.take y.2.2.2.2.2.2.1.length y.2.2.2.2.2.2.1 ++ List.take (2 : Nat) [(0 : Int), (1024 : Int)])[(0 : Nat) + Int.toNat (11 : Int)]? fun y_9 => T.ite ((mget y.2.2.1.2.2.2.2.2.2.2.2.1 (ByteArray.mk #[99, 97, 109, 101, 114, 97])).getD false) (T.opt (fault_New ((2 : Int), y.2.2.1.2.2.2.2.2.2.2.2.2.1)) fun y_10 => T.opt (fault_Wrap (y_10, (9 : Int), (0 : Int))) fun y_11 => T.ite (!y_11.isNil) (T.ret (Ex.ret, ([], [], [], (0 : Int), [], (((0 : Int), (0 : Int), (0 : Int)), ((0 : Int), (0 : Int), (0 : Int)), ((0 : Int), (0 : Int), (0 : Int)), (0 : Int), (0 : Int), (0 : Int)), (0 : Int), (0 : Int)), y_11, (List.take y.2.2.1.1.length y.2.2.1.1, List.take y.2.2.1.2.1.length y.2.2.1.2.1, List.take y.2.2.1.2.2.1.length y.2.2.1.2.2.1, y.2.2.1.2.2.2.1, List.take y.2.2.1.2.2.2.2.1.length y.2.2.1.2.2.2.2.1, (y_4, y_5, y_6, y_7, y_8, y_9), y.2.2.1.2.2.2.2.2.2.1, y.2.2.1.2.2.2.2.2.2.2.1, y.2.2.1.2.2.2.2.2.2.2.2.1, y.2.2.1.2.2.2.2.2.2.2.2.2.1, y.2.2.1.2.2.2.2.2.2.2.2.2.2.1, ()), x.2.2.2.1, x.2.2.2.2.1, x.2.2.2.2.2.1, ())) (T.ret (Ex.normal, y.2.1, x.2.1, (List.take y.2.2.1.1.length y.2.2.1.1, List.take y.2.2.1.2.1.length y.2.2.1.2.1, List.take y.2.2.1.2.2.1.length y.2.2.1.2.2.1, y.2.2.1.2.2.2.1, List.take y.2.2.1.2.2.2.2.1.length y.2.2.1.2.2.2.2.1, (y_4, y_5, y_6, y_7, y_8, y_9), y.2.2.1.2.2.2.2.2.2.1, y.2.2.1.2.2.2.2.2.2.2.1, y.2.2.1.2.2.2.2.2.2.2.2.1, y.2.2.1.2.2.2.2.2.2.2.2.2.1, y.2.2.1.2.2.2.2.2.2.2.2.2.2.1, ()), x.2.2.2.1, x.2.2.2.2.1, W (x.2.2.2.2.2.1 + (1 : Int)), ()))) (T.ite false (T.ret (Ex.ret, ([], [], [], (0 : Int), [], (((0 : Int), (0 : Int), (0 : Int)), ((0 : Int), (0 : Int), (0 : Int)), ((0 : Int), (0 : Int), (0 : Int)), (0 : Int), (0 : Int), (0 : Int)), (0 : Int), (0 : Int)), ErrD.nil, (List.take y.2.2.1.1.length y.2.2.1.1, List.take y.2.2.1.2.1.length y.2.2.1.2.1, List.take y.2.2.1.2.2.1.length y.2.2.1.2.2.1, y.2.2.1.2.2.2.1, List.take y.2.2.1.2.2.2.2.1.length y.2.2.1.2.2.2.2.1, (y_4, y_5, y_6, y_7, y_8, y_9), y.2.2.1.2.2.2.2.2.2.1, y.2.2.1.2.2.2.2.2.2.2.1, mset y.2.2.1.2.2.2.2.2.2.2.2.1 (ByteArray.mk #[99, 97, 109, 101, 114, 97]) true, y.2.2.1.2.2.2.2.2.2.2.2.2.1, y.2.2.1.2.2.2.2.2.2.2.2.2.2.1, ()), x.2.2.2.1, x.2.2.2.2.1, x.2.2.2.2.2.1, ())) (T.ret (Ex.normal, y.2.1, x.2.1, (List.take y.2.2.1.1.length y.2.2.1.1, List.take y.2.2.1.2.1.length y.2.2.1.2.1, List.take y.2.2.1.2.2.1.length y.2.2.1.2.2.1, y.2.2.1.2.2.2.1, List.take y.2.2.1.2.2.2.2.1.length y.2.2.1.2.2.2.2.1, (y_4, y_5, y_6, y_7, y_8, y_9), y.2.2.1.2.2.2.2.2.2.1, y.2.2.1.2.2.2.2.2.2.2.1, mset y.2.2.1.2.2.2.2.2.2.2.2.1 (ByteArray.mk #[99, 97, 109, 101, 114, 97]) true, y.2.2.1.2.2.2.2.2.2.2.2.2.1, y.2.2.1.2.2.2.2.2.2.2.2.2.2.1, ()), x.2.2.2.1, x.2.2.2.2.1, W (x.2.2.2.2.2.1 + (1 : Int)), ())))) T.fail) T.fail) T.fail) T.fail) T.fail) T.fail) (T.opt (parse_point (List.take y.2.2.2.2.2.2.1.length y.2.2.2.2.2.2.1)) fun y_4 => T.ite (decide ((0 : Int) ≤ (3 : Int)) && decide ((3 : Int) ≤ (↑y.2.2.2.2.2.2.1.length : Int)) && decide ((↑y.2.2.2.2.2.2.1.length : Int) ≤ (↑y.2.2.2.2.2.2.1.length : Int))) (T.opt (parse_point (List.take ((↑y.2.2.2.2.2.2.1.length : Int).toNat - Int.toNat (3 : Int)) (List.drop ((0 : Nat) + Int.toNat (3 : Int)) y.2.2.2.2.2.2.1))) fun y_5 => T.ite (decide ((0 : Int) ≤ (6 : Int)) && decide ((6 : Int) ≤ (↑y.2.2.2.2.2.2.1.length : Int)) && decide ((↑y.2.2.2.2.2.2.1.length : Int) ≤ (↑y.2.2.2.2.2.2.1.length : Int))) (T.opt (parse_point (List.take ((↑y.2.2.2.2.2.2.1.length : Int).toNat - Int.toNat (6 : Int)) (List.drop ((0 : Nat) + Int.toNat (6 : Int)) y.2.2.2.2.2.2.1))) fun y_6 => T.ite (decide ((0 : Int) ≤ (9 : Int)) && decide ((9 : Int) < (↑y.2.2.2.2.2.2.1.length : Int))) (T.opt y.2.2.2.2.2.2.1[(0 : Nat) + Int.toNat (9 : Int)]? fun y_7 => T.ite (decide ((0 : Int) ≤ (10 : Int)) && decide ((10 : Int) < (↑y.2.2.2.2.2.2.1.length : Int))) (T.opt y.2.2.2.2.2.2.1[(0 : Nat) + Int.toNat (10 : Int)]? fun y_8 => T.ite (decide ((0 : Int) ≤ (11 : Int)) && decide ((11 : Int) < (↑y.2.2.2.2.2.2.1.length : Int))) (T.opt y.2.2.2.2.2.2.1[(0 : Nat) + Int.toNat (11 : Int)]? fun y_9 => T.ite ((mget y.2.2.1.2.2.2.2.2.2.2.2.1 (ByteArray.mk #[99, 97, 109, 101, 114, 97])).getD false) (T.opt (fault_New ((2 : Int), y.2.2.1.2.2.2.2.2.2.2.2.2.1)) fun y_10 => T.opt (fault_Wrap (y_10, (9 : Int), (0 : Int))) fun y_11 => T.ite (!y_11.isNil) (T.ret (Ex.ret, ([], [], [], (0 : Int), [], (((0 : Int), (0 : Int), (0 : Int)), ((0 : Int), (0 : Int), (0 : Int)), ((0 : Int), (0 : Int), (0 : Int)), (0 : Int), (0 : Int), (0 : Int)), (0 : Int), (0 : Int)), y_11, (List.take y.2.2.1.1.length y.2.2.1.1, List.take y.2.2.1.2.1.length y.2.2.1.2.1, List.take y.2.2.1.2.2.1.length y.2.2.1.2.2.1, y.2.2.1.2.2.2.1, List.take y.2.2.1.2.2.2.2.1.length y.2.2.1.2.2.2.2.1, (y_4, y_5, y_6, y_7, y_8, y_9), y.2.2.1.2.2.2.2.2.2.1, y.2.2.1.2.2.2.2.2.2.2.1, y.2.2.1.2.2.2.2.2.2.2.2.1, y.2.2.1.2.2.2.2.2.2.2.2.2.1, y.2.2.1.2.2.2.2.2.2.2.2.2.2.1, ()), x.2.2.2.1, x.2.2.2.2.1, x.2.2.2.2.2.1, ())) (T.ret (Ex.normal, y.2.1, x.2.1, (List.take y.2.2.1.1.length y.2.2.1.1, List.take y.2.2.1.2.1.length y.2.2.1.2.1, List.take y.2.2.1.2.2.1.length y.2.2.1.2.2.1, y.2.2.1.2.2.2.1, List.take y.2.2.1.2.2.2.2.1.length y.2.2.1.2.2.2.2.1, (y_4, y_5, y_6, y_7, y_8, y_9), y.2.2.1.2.2.2.2.2.2.1, y.2.2.1.2.2.2.2.2.2.2.1, y.2.2.1.2.2.2.2.2.2.2.2.1, y.2.2.1.2.2.2.2.2.2.2.2.2.1, y.2.2.1.2.2.2.2.2.2.2.2.2.2.1, ()), x.2.2.2.1, x.2.2.2.2.1, W (x.2.2.2.2.2.1 + (1 : Int)), ()))) (T.ite false (T.ret (Ex.ret, ([], [], [], (0 : Int), [], (((0 : Int), (0 : Int), (0 : Int)), ((0 : Int), (0 : Int), (0 : Int)), ((0 : Int), (0 : Int), (0 : Int)), (0 : Int), (0 : Int), (0 : Int)), (0 : Int), (0 : Int)), ErrD.nil, (List.take y.2.2.1.1.length y.2.2.1.1, List.take y.2.2.1.2.1.length y.2.2.1.2.1, List.take y.2.2.1.2.2.1.length y.2.2.1.2.2.1, y.2.2.1.2.2.2.1, List.take y.2.2.1.2.2.2.2.1.length y.2.2.1.2.2.2.2.1, (y_4, y_5, y_6, y_7, y_8, y_9), y.2.2.1.2.2.2.2.2.2.1, y.2.2.1.2.2.2.2.2.2.2.1, mset y.2.2.1.2.2.2.2.2.2.2.2.1 (ByteArray.mk #[99, 97, 109, 101, 114, 97]) true, y.2.2.1.2.2.2.2.2.2.2.2.2.1, y.2.2.1.2.2.2.2.2.2.2.2.2.2.1, ()), x.2.2.2.1, x.2.2.2.2.1, x.2.2.2.2.2.1, ())) (T.ret (Ex.normal, y.2.1, x.2.1, (List.take y.2.2.1.1.length y.2.2.1.1, List.take y.2.2.1.2.1.length y.2.2.1.2.1, List.take y.2.2.1.2.2.1.length y.2.2.1.2.2.1, y.2.2.1.2.2.2.1, List.take y.2.2.1.2.2.2.2.1.length y.2.2.1.2.2.2.2.1, (y_4, y_5, y_6, y_7, y_8, y_9), y.2.2.1.2.2.2.2.2.2.1, y.2.2.1.2.2.2.2.2.2.2.1, mset y.2.2.1.2.2.2.2.2.2.2.2.1 (ByteArray.mk #[99, 97, 109, 101, 114, 97]) true, y.2.2.1.2.2.2.2.2.2.2.2.2.1, y.2.2.1.2.2.2.2.2.2.2.2.2.2.1, ()), x.2.2.2.1, x.2.2.2.2.1, W (x.2.2.2.2.2.1 + (1 : Int)), ())))) T.fail) T.fail) T.fail) T.fail) T.fail)))))))))) (T.ite (exEq y.1 Ex.ret) (T.ite (!ErrD.isNil y.2.2.2.2.2.1) (T.ite (!ErrD.isNil y.2.2.2.2.2.1) (T.ret (Ex.ret, ([], [], [], (0 : Int), [], (((0 : Int), (0 : Int), (0 : Int)), ((0 : Int), (0 : Int), (0 : Int)), ((0 : Int), (0 : Int), (0 : Int)), (0 : Int), (0 : Int), (0 : Int)), (0 : Int), (0 : Int)), y.2.2.2.2.2.1, (List.take y.2.2.1.1.length y.2.2.1.1, List.take y.2.2.1.2.1.length y.2.2.1.2.1, List.take y.2.2.1.2.2.1.length y.2.2.1.2.2.1, y.2.2.1.2.2.2.1, List.take y.2.2.1.2.2.2.2.1.length y.2.2.1.2.2.2.2.1, y.2.2.1.2.2.2.2.2.1, y.2.2.1.2.2.2.2.2.2.1, y.2.2.1.2.2.2.2.2.2.2.1, y.2.2.1.2.2.2.2.2.2.2.2.1, y.2.2.1.2.2.2.2.2.2.2.2.2.1, y.2.2.1.2.2.2.2.2.2.2.2.2.2.1, ()), x.2.2.2.1, x.2.2.2.2.1, x.2.2.2.2.2.1, ())) (T.ret (Ex.normal, y.2.1, x.2.1, (List.take y.2.2.1.1.length y.2.2.1.1, List.take y.2.2.1.2.1.length y.2.2.1.2.1, List.take y.2.2.1.2.2.1.length y.2.2.1.2.2.1, y.2.2.1.2.2.2.1, List.take y.2.2.1.2.2.2.2.1.length y.2.2.1.2.2.2.2.1, y.2.2.1.2.2.2.2.2.1, y.2.2.1.2.2.2.2.2.2.1, y.2.2.1.2.2.2.2.2.2.2.1, y.2.2.1.2.2.2.2.2.2.2.2.1, y.2.2.1.2.2.2.2.2.2.2.2.2.1, y.2.2.1.2.2.2.2.2.2.2.2.2.2.1, ()), x.2.2.2.1, x.2.2.2.2.1, W (x.2.2.2.2.2.1 + (1 : Int)), ()))) (T.opt (lget y.2.2.1.2.2.2.2.2.2.2.2.2.2.1 (0 : Int)) fun y_3 => T.ite (ByteArray.toList y_3 == (ByteArray.mk #[109, 97, 116, 116]).toList) (T.ite (decide ((y.2.2.2.2.1.length + (List.take (4 : Nat) [(0 : Int), (0 : Int), (0 : Int), (1024 : Int)]).length) * nat_lit 8 ≤ most)) (T.opt (parse_point (List.take (y.2.2.2.2.1.length + (List.take (4 : Nat) [(0 : Int), (0 : Int), (0 : Int), (1024 : Int)]).length) (List.take y.2.2.2.2.1.length y.2.2.2.2.1 ++ List.take (4 : Nat) [(0 : Int), (0 : Int), (0 : Int), (1024 : Int)]))) fun y_4 => T.ite (decide ((0 : Int) ≤ (3 : Int)) && decide ((3 : Int) ≤ (↑(y.2.2.2.2.1.length + (List.take (4 : Nat) [(0 : Int), (0 : Int), (0 : Int), (1024 : Int)]).length) : Int)) && decide ((↑(y.2.2.2.2.1.length + (List.take (4 : Nat) [(0 : Int), (0 : Int), (0 : Int), (1024 : Int)]).length) : Int) ≤ (↑(y.2.2.2.2.1.length + (List.take (4 : Nat) [(0 : Int), (0 : Int), (0 : Int), (1024 : Int)]).length) : Int))) (T.opt (parse_point (List.take ((↑(y.2.2.2.2.1.length + (List.take (4 : Nat) [(0 : Int), (0 : Int), (0 : Int), (1024 : Int)]).length) : Int).toNat - Int.toNat (3 : Int)) (List.drop ((0 : Nat) + Int.toNat (3 : Int)) (List.take y.2.2.2.2.1.length y.2.2.2.2.1 ++ List.take (4 : Nat) [(0 : Int), (0 : Int), (0 : Int), (1024 : Int)])))) fun y_5 => T.ite (decide ((0 : Int) ≤ (6 : Int)) && decide ((6 : Int) < (↑(y.2.2.2.2.1.length + (List.take (4 : Nat) [(0 : Int), (0 : Int), (0 : Int), (1024 : Int)]).length) : Int))) (T.opt (List.take y.2.2.2.2.1.length y.2.2.2.2.1 ++ List.take (4 : Nat) [(0 : Int), (0 : Int), (0 : Int), (1024 : Int)])[(0 : Nat) + Int.toNat (6 : Int)]? fun y_6 => T.ite (decide ((y.2.2.1.1.length + (1 : Nat)) * nat_lit 56 ≤ most)) (T.ite false (T.ret (Ex.ret, ([], [], [], (0 : Int), [], (((0 : Int), (0 : Int), (0 : Int)), ((0 : Int), (0 : Int), (0 : Int)), ((0 : Int), (0 : Int), (0 : Int)), (0 : Int), (0 : Int), (0 : Int)), (0 : Int), (0 : Int)), ErrD.nil, (List.take (y.2.2.1.1.length + (1 : Nat)) (List.take y.2.2.1.1.length y.2.2.1.1 ++ [(y_4, y_5, y_6)]), List.take y.2.2.1.2.1.length y.2.2.1.2.1, List.take y.2.2.1.2.2.1.length y.2.2.1.2.2.1, y.2.2.1.2.2.2.1, List.take y.2.2.1.2.2.2.2.1.length y.2.2.1.2.2.2.2.1, y.2.2.1.2.2.2.2.2.1, y.2.2.1.2.2.2.2.2.2.1, y.2.2.1.2.2.2.2.2.2.2.1, y.2.2.1.2.2.2.2.2.2.2.2.1, y.2.2.1.2.2.2.2.2.2.2.2.2.1, y.2.2.1.2.2.2.2.2.2.2.2.2.2.1, ()), x.2.2.2.1, x.2.2.2.2.1, x.2.2.2.2.2.1, ())) (T.ret (Ex.normal, y.2.1, x.2.1, (List.take (y.2.2.1.1.length + (1 : Nat)) (List.take y.2.2.1.1.length y.2.2.1.1 ++ [(y_4, y_5, y_6)]), List.take y.2.2.1.2.1.length y.2.2.1.2.1, List.take y.2.2.1.2.2.1.length y.2.2.1.2.2.1, y.2.2.1.2.2.2.1, List.take y.2.2.1.2.2.2.2.1.length y.2.2.1.2.2.2.2.1, y.2.2.1.2.2.2.2.2.1, y.2.2.1.2.2.2.2.2.2.1, y.2.2.1.2.2.2.2.2.2.2.1, y.2.2.1.2.2.2.2.2.2.2.2.1, y.2.2.1.2.2.2.2.2.2.2.2.2.1, y.2.2.1.2.2.2.2.2.2.2.2.2.2.1, ()), x.2.2.2.1, x.2.2.2.2.1, W (x.2.2.2.2.2.1 + (1 : Int)), ()))) T.fail) T.fail) T.fail) T.fail) (T.ite (ByteArray.toList y_3 == (ByteArray.mk #[109, 97, 116]).toList) (T.opt (parse_point (List.take y.2.2.2.2.1.length y.2.2.2.2.1)) fun y_4 => T.ite (decide ((0 : Int) ≤ (3 : Int)) && decide ((3 : Int) ≤ (↑y.2.2.2.2.1.length : Int)) && decide ((↑y.2.2.2.2.1.length : Int) ≤ (↑y.2.2.2.2.1.length : Int))) (T.opt (parse_point (List.take ((↑y.2.2.2.2.1.length : Int).toNat - Int.toNat (3 : Int)) (List.drop ((0 : Nat) + Int.toNat (3 : Int)) y.2.2.2.2.1))) fun y_5 => T.ite (decide ((0 : Int) ≤ (6 : Int)) && decide ((6 : Int) < (↑y.2.2.2.2.1.length : Int))) (T.opt y.2.2.2.2.1[(0 : Nat) + Int.toNat (6 : Int)]? fun y_6 => T.ite (decide ((y.2.2.1.1.length + (1 : Nat)) * nat_lit 56 ≤ most)) (T.ite false (T.ret (Ex.ret, ([], [], [], (0 : Int), [], (((0 : Int), (0 : Int), (0 : Int)), ((0 : Int), (0 : Int), (0 : Int)), ((0 : Int), (0 : Int), (0 : Int)), (0 : Int), (0 : Int), (0 : Int)), (0 : Int), (0 : Int)), ErrD.nil, (List.take (y.2.2.1.1.length + (1 : Nat)) (List.take y.2.2.1.1.length y.2.2.1.1 ++ [(y_4, y_5, y_6)]), List.take y.2.2.1.2.1.length y.2.2.1.2.1, List.take y.2.2.1.2.2.1.length y.2.2.1.2.2.1, y.2.2.1.2.2.2.1, List.take y.2.2.1.2.2.2.2.1.length y.2.2.1.2.2.2.2.1, y.2.2.1.2.2.2.2.2.1, y.2.2.1.2.2.2.2.2.2.1, y.2.2.1.2.2.2.2.2.2.2.1, y.2.2.1.2.2.2.2.2.2.2.2.1, y.2.2.1.2.2.2.2.2.2.2.2.2.1, y.2.2.1.2.2.2.2.2.2.2.2.2.2.1, ()), x.2.2.2.1, x.2.2.2.2.1, x.2.2.2.2.2.1, ())) (T.ret (Ex.normal, y.2.1, x.2.1, (List.take (y.2.2.1.1.length + (1 : Nat)) (List.take y.2.2.1.1.length y.2.2.1.1 ++ [(y_4, y_5, y_6)]), List.take y.2.2.1.2.1.length y.2.2.1.2.1, List.take y.2.2.1.2.2.1.length y.2.2.1.2.2.1, y.2.2.1.2.2.2.1, List.take y.2.2.1.2.2.2.2.1.length y.2.2.1.2.2.2.2.1, y.2.2.1.2.2.2.2.2.1, y.2.2.1.2.2.2.2.2.2.1, y.2.2.1.2.2.2.2.2.2.2.1, y.2.2.1.2.2.2.2.2.2.2.2.1, y.2.2.1.2.2.2.2.2.2.2.2.2.1, y.2.2.1.2.2.2.2.2.2.2.2.2.2.1, ()), x.2.2.2.1, x.2.2.2.2.1, W (x.2.2.2.2.2.1 + (1 : Int)), ()))) T.fail) T.fail) T.fail) (T.ite (ByteArray.toList y_3 == (ByteArray.mk #[116, 114, 105]).toList) (T.ite (decide ((0 : Int) ≤ (1 : Int)) && decide ((1 : Int) ≤ (↑y.2.2.2.2.1.length : Int)) && decide ((↑y.2.2.2.2.1.length : Int) ≤ (↑y.2.2.2.2.1.length : Int))) (T.opt (parse_point (List.take ((↑y.2.2.2.2.1.length : Int).toNat - Int.toNat (1 : Int)) (List.drop ((0 : Nat) + Int.toNat (1 : Int)) y.2.2.2.2.1))) fun y_4 => T.ite (decide ((0 : Int) ≤ (4 : Int)) && decide ((4 : Int) ≤ (↑y.2.2.2.2.1.length : Int)) && decide ((↑y.2.2.2.2.1.length : Int) ≤ (↑y.2.2.2.2.1.length : Int))) (T.opt (parse_point (List.take ((↑y.2.2.2.2.1.length : Int).toNat - Int.toNat (4 : Int)) (List.drop ((0 : Nat) + Int.toNat (4 : Int)) y.2.2.2.2.1))) fun y_5 => T.ite (decide ((0 : Int) ≤ (7 : Int)) && decide ((7 : Int) ≤ (↑y.2.2.2.2.1.length : Int)) && decide ((↑y.2.2.2.2.1.length : Int) ≤ (↑y.2.2.2.2.1.length : Int))) (T.opt (parse_point (List.take ((↑y.2.2.2.2.1.length : Int).toNat - Int.toNat (7 : Int)) (List.drop ((0 : Nat) + Int.toNat (7 : Int)) y.2.2.2.2.1))) fun y_6 => T.ite (decide ((0 : Int) ≤ (0 : Int)) && decide ((0 : Int) < (↑y.2.2.2.2.1.length : Int))) (T.opt y.2.2.2.2.1[(0 : Nat) + Int.toNat (0 : Int)]? fun y_7 => T.ite (decide ((y.2.2.1.2.1.length + (1 : Nat)) * nat_lit 80 ≤ most)) (T.ite false (T.ret (Ex.ret, ([], [], [], (0 : Int), [], (((0 : Int), (0 : Int), (0 : Int)), ((0 : Int), (0 : Int), (0 : Int)), ((0 : Int), (0 : Int), (0 : Int)), (0 : Int), (0 : Int), (0 : Int)), (0 : Int), (0 : Int)), ErrD.nil, (List.take y.2.2.1.1.length y.2.2.1.1, List.take (y.2.2.1.2.1.length + (1 : Nat)) (List.take y.2.2.1.2.1.length y.2.2.1.2.1 ++ [(y_4, y_5, y_6, y_7)]), List.take y.2.2.1.2.2.1.length y.2.2.1.2.2.1, y.2.2.1.2.2.2.1, List.take y.2.2.1.2.2.2.2.1.length y.2.2.1.2.2.2.2.1, y.2.2.1.2.2.2.2.2.1, y.2.2.1.2.2.2.2.2.2.1, y.2.2.1.2.2.2.2.2.2.2.1, y.2.2.1.2.2.2.2.2.2.2.2.1, y.2.2.1.2.2.2.2.2.2.2.2.2.1, y.2.2.1.2.2.2.2.2.2.2.2.2.2.1, ()), x.2.2.2.1, x.2.2.2.2.1, x.2.2.2.2.2.1, ())) (T.ret (Ex.normal, y.2.1, x.2.1, (List.take y.2.2.1.1.length y.2.2.1.1, List.take (y.2.2.1.2.1.length + (1 : Nat)) (List.take y.2.2.1.2.1.length y.2.2.1.2.1 ++ [(y_4, y_5, y_6, y_7)]), List.take y.2.2.1.2.2.1.length y.2.2.1.2.2.1, y.2.2.1.2.2.2.1, List.take y.2.2.1.2.2.2.2.1.length y.2.2.1.2.2.2.2.1, y.2.2.1.2.2.2.2.2.1, y.2.2.1.2.2.2.2.2.2.1, y.2.2.1.2.2.2.2.2.2.2.1, y.2.2.1.2.2.2.2.2.2.2.2.1, y.2.2.1.2.2.2.2.2.2.2.2.2.1, y.2.2.1.2.2.2.2.2.2.2.2.2.2.1, ()), x.2.2.2.1, x.2.2.2.2.1, W (x.2.2.2.2.2.1 + (1 : Int)), ()))) T.fail) T.fail) T.fail) T.fail) T.fail) (T.ite (ByteArray.toList y_3 == (ByteArray.mk #[108, 105, 103, 104, 116]).toList) (T.ite (decide ((0 : Int) ≤ (0 : Int)) && decide ((0 : Int) < (↑y.2.2.2.2.1.length : Int))) (T.opt y.2.2.2.2.1[(0 : Nat) + Int.toNat (0 : Int)]? fun y_4 => T.ite (decide ((0 : Int) ≤ (1 : Int)) && decide ((1 : Int) ≤ (↑y.2.2.2.2.1.length : Int)) && decide ((↑y.2.2.2.2.1.length : Int) ≤ (↑y.2.2.2.2.1.length : Int))) (T.opt (parse_point (List.take ((↑y.2.2.2.2.1.length : Int).toNat - Int.toNat (1 : Int)) (List.drop ((0 : Nat) + Int.toNat (1 : Int)) y.2.2.2.2.1))) fun y_5 => T.ite (decide ((y.2.2.1.2.2.1.length + (1 : Nat)) * nat_lit 32 ≤ most)) (T.ite false (T.ret (Ex.ret, ([], [], [], (0 : Int), [], (((0 : Int), (0 : Int), (0 : Int)), ((0 : Int), (0 : Int), (0 : Int)), ((0 : Int), (0 : Int), (0 : Int)), (0 : Int), (0 : Int), (0 : Int)), (0 : Int), (0 : Int)), ErrD.nil, (List.take y.2.2.1.1.length y.2.2.1.1, List.take y.2.2.1.2.1.length y.2.2.1.2.1, List.take (y.2.2.1.2.2.1.length + (1 : Nat)) (List.take y.2.2.1.2.2.1.length y.2.2.1.2.2.1 ++ [(y_4, y_5)]), y.2.2.1.2.2.2.1, List.take y.2.2.1.2.2.2.2.1.length y.2.2.1.2.2.2.2.1, y.2.2.1.2.2.2.2.2.1, y.2.2.1.2.2.2.2.2.2.1, y.2.2.1.2.2.2.2.2.2.2.1, y.2.2.1.2.2.2.2.2.2.2.2.1, y.2.2.1.2.2.2.2.2.2.2.2.2.1, y.2.2.1.2.2.2.2.2.2.2.2.2.2.1, ()), x.2.2.2.1, x.2.2.2.2.1, x.2.2.2.2.2.1, ())) (T.ret (Ex.normal, y.2.1, x.2.1, (List.take y.2.2.1.1.length y.2.2.1.1, List.take y.2.2.1.2.1.length y.2.2.1.2.1, List.take (y.2.2.1.2.2.1.length + (1 : Nat)) (List.take y.2.2.1.2.2.1.length y.2.2.1.2.2.1 ++ [(y_4, y_5)]), y.2.2.1.2.2.2.1, List.take y.2.2.1.2.2.2.2.1.length y.2.2.1.2.2.2.2.1, y.2.2.1.2.2.2.2.2.1, y.2.2.1.2.2.2.2.2.2.1, y.2.2.1.2.2.2.2.2.2.2.1, y.2.2.1.2.2.2.2.2.2.2.2.1, y.2.2.1.2.2.2.2.2.2.2.2.2.1, y.2.2.1.2.2.2.2.2.2.2.2.2.2.1, ()), x.2.2.2.1, x.2.2.2.2.1, W (x.2.2.2.2.2.1 + (1 : Int)), ()))) T.fail) T.fail) T.fail) (T.ite (ByteArray.toList y_3 == (ByteArray.mk #[99, 101, 108, 108]).toList) (T.opt (parse_point (List.take y.2.2.2.2.1.length y.2.2.2.2.1)) fun y_4 => T.ite (decide ((y.2.2.1.2.2.2.2.1.length + (1 : Nat)) * nat_lit 24 ≤ most)) (T.ite false (T.ret (Ex.ret, ([], [], [], (0 : Int), [], (((0 : Int), (0 : Int), (0 : Int)), ((0 : Int), (0 : Int), (0 : Int)), ((0 : Int), (0 : Int), (0 : Int)), (0 : Int), (0 : Int), (0 : Int)), (0 : Int), (0 : Int)), ErrD.nil, (List.take y.2.2.1.1.length y.2.2.1.1, List.take y.2.2.1.2.1.length y.2.2.1.2.1, List.take y.2.2.1.2.2.1.length y.2.2.1.2.2.1, y.2.2.1.2.2.2.1, List.take (y.2.2.1.2.2.2.2.1.length + (1 : Nat)) (List.take y.2.2.1.2.2.2.2.1.length y.2.2.1.2.2.2.2.1 ++ [y_4]), y.2.2.1.2.2.2.2.2.1, y.2.2.1.2.2.2.2.2.2.1, y.2.2.1.2.2.2.2.2.2.2.1, y.2.2.1.2.2.2.2.2.2.2.2.1, y.2.2.1.2.2.2.2.2.2.2.2.2.1, y.2.2.1.2.2.2.2.2.2.2.2.2.2.1, ()), x.2.2.2.1, x.2.2.2.2.1, x.2.2.2.2.2.1, ())) (T.ret (Ex.normal, y.2.1, x.2.1, (List.take y.2.2.1.1.length y.2.2.1.1, List.take y.2.2.1.2.1.length y.2.2.1.2.1, List.take y.2.2.1.2.2.1.length y.2.2.1.2.2.1, y.2.2.1.2.2.2.1, List.take (y.2.2.1.2.2.2.2.1.length + (1 : Nat)) (List.take y.2.2.1.2.2.2.2.1.length y.2.2.1.2.2.2.2.1 ++ [y_4]), y.2.2.1.2.2.2.2.2.1, y.2.2.1.2.2.2.2.2.2.1, y.2.2.1.2.2.2.2.2.2.2.1, y.2.2.1.2.2.2.2.2.2.2.2.1, y.2.2.1.2.2.2.2.2.2.2.2.2.1, y.2.2.1.2.2.2.2.2.2.2.2.2.2.1, ()), x.2.2.2.1, x.2.2.2.2.1, W (x.2.2.2.2.2.1 + (1 : Int)), ()))) T.fail) (T.ite (ByteArray.toList y_3 == (ByteArray.mk #[115, 107, 121]).toList) (T.ite (decide ((0 : Int) ≤ (0 : Int)) && decide ((0 : Int) < (↑y.2.2.2.2.1.length : Int))) (T.opt y.2.2.2.2.1[(0 : Nat) + Int.toNat (0 : Int)]? fun y_4 => T.ite ((mget y.2.2.1.2.2.2.2.2.2.2.2.1 (ByteArray.mk #[115, 107, 121])).getD false) (T.opt (fault_New ((2 : Int), y.2.2.1.2.2.2.2.2.2.2.2.2.1)) fun y_5 => T.opt (fault_Wrap (y_5, (9 : Int), (0 : Int))) fun y_6 => T.ite (!y_6.isNil) (T.ret (Ex.ret, ([], [], [], (0 : Int), [], (((0 : Int), (0 : Int), (0 : Int)), ((0 : Int), (0 : Int), (0 : Int)), ((0 : Int), (0 : Int), (0 : Int)), (0 : Int), (0 : Int), (0 : Int)), (0 : Int), (0 : Int)), y_6, (List.take y.2.2.1.1.length y.2.2.1.1, List.take y.2.2.1.2.1.length y.2.2.1.2.1, List.take y.2.2.1.2.2.1.length y.2.2.1.2.2.1, y_4, List.take y.2.2.1.2.2.2.2.1.length y.2.2.1.2.2.2.2.1, y.2.2.1.2.2.2.2.2.1, y.2.2.1.2.2.2.2.2.2.1, y.2.2.1.2.2.2.2.2.2.2.1, y.2.2.1.2.2.2.2.2.2.2.2.1, y.2.2.1.2.2.2.2.2.2.2.2.2.1, y.2.2.1.2.2.2.2.2.2.2.2.2.2.1, ()), x.2.2.2.1, x.2.2.2.2.1, x.2.2.2.2.2.1, ())) (T.ret (Ex.normal, y.2.1, x.2.1, (List.take y.2.2.1.1.length y.2.2.1.1, List.take y.2.2.1.2.1.length y.2.2.1.2.1, List.take y.2.2.1.2.2.1.length y.2.2.1.2.2.1, y_4, List.take y.2.2.1.2.2.2.2.1.length y.2.2.1.2.2.2.2.1, y.2.2.1.2.2.2.2.2.1, y.2.2.1.2.2.2.2.2.2.1, y.2.2.1.2.2.2.2.2.2.2.1, y.2.2.1.2.2.2.2.2.2.2.2.1, y.2.2.1.2.2.2.2.2.2.2.2.2.1, y.2.2.1.2.2.2.2.2.2.2.2.2.2.1, ()), x.2.2.2.1, x.2.2.2.2.1, W (x.2.2.2.2.2.1 + (1 : Int)), ()))) (T.ite false (T.ret (Ex.ret, ([], [], [], (0 : Int), [], (((0 : Int), (0 : Int), (0 : Int)), ((0 : Int), (0 : Int), (0 : Int)), ((0 : Int), (0 : Int), (0 : Int)), (0 : Int), (0 : Int), (0 : Int)), (0 : Int), (0 : Int)), ErrD.nil, (List.take y.2.2.1.1.length y.2.2.1.1, List.take y.2.2.1.2.1.length y.2.2.1.2.1, List.take y.2.2.1.2.2.1.length y.2.2.1.2.2.1, y_4, List.take y.2.2.1.2.2.2.2.1.length y.2.2.1.2.2.2.2.1, y.2.2.1.2.2.2.2.2.1, y.2.2.1.2.2.2.2.2.2.1, y.2.2.1.2.2.2.2.2.2.2.1, mset y.2.2.1.2.2.2.2.2.2.2.2.1 (ByteArray.mk #[115, 107, 121]) true, y.2.2.1.2.2.2.2.2.2.2.2.2.1, y.2.2.1.2.2.2.2.2.2.2.2.2.2.1, ()), x.2.2.2.1, x.2.2.2.2.1, x.2.2.2.2.2.1, ())) (T.ret (Ex.normal, y.2.1, x.2.1, (List.take y.2.2.1.1.length y.2.2.1.1, List.take y.2.2.1.2.1.length y.2.2.1.2.1, List.take y.2.2.1.2.2.1.length y.2.2.1.2.2.1, y_4, List.take y.2.2.1.2.2.2.2.1.length y.2.2.1.2.2.2.2.1, y.2.2.1.2.2.2.2.2.1, y.2.2.1.2.2.2.2.2.2.1, y.2.2.1.2.2.2.2.2.2.2.1, mset y.2.2.1.2.2.2.2.2.2.2.2.1 (ByteArray.mk #[115, 107, 121]) true, y.2.2.1.2.2.2.2.2.2.2.2.2.1, y.2.2.1.2.2.2.2.2.2.2.2.2.2.1, ()), x.2.2.2.1, x.2.2.2.2.1, W (x.2.2.2.2.2.1 + (1 : Int)), ())))) T.fail) (T.ite (ByteArray.toList y_3 == (ByteArray.mk #[102, 105, 108, 116, 101, 114]).toList) (T.ite (decide ((0 : Int) ≤ (0 : Int)) && decide ((0 : Int) < (↑y.2.2.2.2.1.length : Int))) (T.opt y.2.2.2.2.1[(0 : Nat) + Int.toNat (0 : Int)]? fun y_4 => T.ite (decide ((0 : Int) ≤ (1 : Int)) && decide ((1 : Int) < (↑y.2.2.2.2.1.length : Int))) (T.opt y.2.2.2.2.1[(0 : Nat) + Int.toNat (1 : Int)]? fun y_5 => T.ite ((mget y.2.2.1.2.2.2.2.2.2.2.2.1 (ByteArray.mk #[102, 105, 108, 116, 101, 114])).getD false) (T.opt (fault_New ((2 : Int), y.2.2.1.2.2.2.2.2.2.2.2.2.1)) fun y_6 => T.opt (fault_Wrap (y_6, (9 : Int), (0 : Int))) fun y_7 => T.ite (!y_7.isNil) (T.ret (Ex.ret, ([], [], [], (0 : Int), [], (((0 : Int), (0 : Int), (0 : Int)), ((0 : Int), (0 : Int), (0 : Int)), ((0 : Int), (0 : Int), (0 : Int)), (0 : Int), (0 : Int), (0 : Int)), (0 : Int), (0 : Int)), y_7, (List.take y.2.2.1.1.length y.2.2.1.1, List.take y.2.2.1.2.1.length y.2.2.1.2.1, List.take y.2.2.1.2.2.1.length y.2.2.1.2.2.1, y.2.2.1.2.2.2.1, List.take y.2.2.1.2.2.2.2.1.length y.2.2.1.2.2.2.2.1, y.2.2.1.2.2.2.2.2.1, y_4, y_5, y.2.2.1.2.2.2.2.2.2.2.2.1, y.2.2.1.2.2.2.2.2.2.2.2.2.1, y.2.2.1.2.2.2.2.2.2.2.2.2.2.1, ()), x.2.2.2.1, x.2.2.2.2.1, x.2.2.2.2.2.1, ())) (T.ret (Ex.normal, y.2.1, x.2.1, (List.take y.2.2.1.1.length y.2.2.1.1, List.take y.2.2.1.2.1.length y.2.2.1.2.1, List.take y.2.2.1.2.2.1.length y.2.2.1.2.2.1, y.2.2.1.2.2.2.1, List.take y.2.2.1.2.2.2.2.1.length y.2.2.1.2.2.2.2.1, y.2.2.1.2.2.2.2.2.1, y_4, y_5, y.2.2.1.2.2.2.2.2.2.2.2.1, y.2.2.1.2.2.2.2.2.2.2.2.2.1, y.2.2.1.2.2.2.2.2.2.2.2.2.2.1, ()), x.2.2.2.1, x.2.2.2.2.1, W (x.2.2.2.2.2.1 + (1 : Int)), ()))) (T.ite false (T.ret (Ex.ret, ([], [], [], (0 : Int), [], (((0 : Int), (0 : Int), (0 : Int)), ((0 : Int), (0 : Int), (0 : Int)), ((0 : Int), (0 : Int), (0 : Int)), (0 : Int), (0 : Int), (0 : Int)), (0 : Int), (0 : Int)), ErrD.nil, (List.take y.2.2.1.1.length y.2.2.1.1, List.take y.2.2.1.2.1.length y.2.2.1.2.1, List.take y.2.2.1.2.2.1.length y.2.2.1.2.2.1, y.2.2.1.2.2.2.1, List.take y.2.2.1.2.2.2.2.1.length y.2.2.1.2.2.2.2.1, y.2.2.1.2.2.2.2.2.1, y_4, y_5, mset y.2.2.1.2.2.2.2.2.2.2.2.1 (ByteArray.mk #[102, 105, 108, 116, 101, 114]) true, y.2.2.1.2.2.2.2.2.2.2.2.2.1, y.2.2.1.2.2.2.2.2.2.2.2.2.2.1, ()), x.2.2.2.1, x.2.2.2.2.1, x.2.2.2.2.2.1, ())) (T.ret (Ex.normal, y.2.1, x.2.1, (List.take y.2.2.1.1.length y.2.2.1.1, List.take y.2.2.1.2.1.length y.2.2.1.2.1, List.take y.2.2.1.2.2.1.length y.2.2.1.2.2.1, y.2.2.1.2.2.2.1, List.take y.2.2.1.2.2.2.2.1.length y.2.2.1.2.2.2.2.1, y.2.2.1.2.2.2.2.2.1, y_4, y_5, mset y.2.2.1.2.2.2.2.2.2.2.2.1 (ByteArray.mk #[102, 105, 108, 116, 101, 114]) true, y.2.2.1.2.2.2.2.2.2.2.2.2.1, y.2.2.1.2.2.2.2.2.2.2.2.2.2.1, ()), x.2.2.2.1, x.2.2.2.2.1, W (x.2.2.2.2.2.1 + (1 : Int)), ())))) T.fail) T.fail) (T.ite (ByteArray.toList y_3 == (ByteArray.mk #[112, 105, 110, 104, 111, 108, 101]).toList) (T.ite (decide ((y.2.2.2.2.1.length + (List.take (2 : Nat) [(0 : Int), (1024 : Int)]).length) * nat_lit 8 ≤ most)) (T.opt (parse_point (List.take (y.2.2.2.2.1.length + (List.take (2 : Nat) [(0 : Int), (1024 : Int)]).length) (List.take y.2.2.2.2.1.length y.2.2.2.2.1 ++ List.take (2 : Nat) [(0 : Int), (1024 : Int)]))) fun y_4 => T.ite (decide ((0 : Int) ≤ (3 : Int)) && decide ((3 : Int) ≤ (↑(y.2.2.2.2.1.length + (List.take (2 : Nat) [(0 : Int), (1024 : Int)]).length) : Int)) && decide ((↑(y.2.2.2.2.1.length + (List.take (2 : Nat) [(0 : Int), (1024 : Int)]).length) : Int) ≤ (↑(y.2.2.2.2.1.length + (List.take (2 : Nat) [(0 : Int), (1024 : Int)]).length) : Int))) (T.opt (parse_point (List.take ((↑(y.2.2.2.2.1.length + (List.take (2 : Nat) [(0 : Int), (1024 : Int)]).length) : Int).toNat - Int.toNat (3 : Int)) (List.drop ((0 : Nat) + Int.toNat (3 : Int)) (List.take y.2.2.2.2.1.length y.2.2.2.2.1 ++ List.take (2 : Nat) [(0 : Int), (1024 : Int)])))) fun y_5 => T.ite (decide ((0 : Int) ≤ (6 : Int)) && decide ((6 : Int) ≤ (↑(y.2.2.2.2.1.length + (List.take (2 : Nat) [(0 : Int), (1024 : Int)]).length) : Int)) && decide ((↑(y.2.2.2.2.1.length + (List.take (2 : Nat) [(0 : Int), (1024 : Int)]).length) : Int) ≤ (↑(y.2.2.2.2.1.length + (List.take (2 : Nat) [(0 : Int), (1024 : Int)]).length) : Int))) (T.opt (parse_point (List.take ((↑(y.2.2.2.2.1.length + (List.take (2 : Nat) [(0 : Int), (1024 : Int)]).length) : Int).toNat - Int.toNat (6 : Int)) (List.drop ((0 : Nat) + Int.toNat (6 : Int)) (List.take y.2.2.2.2.1.length y.2.2.2.2.1 ++ List.take (2 : Nat) [(0 : Int), (1024 : Int)])))) fun y_6 => T.ite (decide ((0 : Int) ≤ (9 : Int)) && decide ((9 : Int) < (↑(y.2.2.2.2.1.length + (List.take (2 : Nat) [(0 : Int), (1024 : Int)]).length) : Int))) (T.opt (List.take y.2.2.2.2.1.length y.2.2.2.2.1 ++ List.take (2 : Nat) [(0 : Int), (1024 : Int)])[(0 : Nat) + Int.toNat (9 : Int)]? fun y_7 => T.ite (decide ((0 : Int) ≤ (10 : Int)) && decide ((10 : Int) < (↑(y.2.2.2.2.1.length + (List.take (2 : Nat) [(0 : Int), (1024 : Int)]).length) : Int))) (T.opt (List.take y.2.2.2.2.1.length y.2.2.2.2.1 ++ List.take (2 : Nat) [(0 : Int), (1024 : Int)])[(0 : Nat) + Int.toNat (10 : Int)]? fun y_8 => T.ite (decide ((0 : Int) ≤ (11 : Int)) && decide ((11 : Int) < (↑(y.2.2.2.2.1.length + (List.take (2 : Nat) [(0 : Int), (1024 : Int)]).length) : Int))) (T.opt (List.take y.2.2.2.2.1.length y.2.2.2.2.1 ++ List.take (2 : Nat) [(0 : Int), (1024 : Int)])[(0 : Nat) + Int.toNat (11 : Int)]? fun y_9 => T.ite ((mget y.2.2.1.2.2.2.2.2.2.2.2.1 (ByteArray.mk #[99, 97, 109, 101, 114, 97])).getD false) (T.opt (fault_New ((2 : Int), y.2.2.1.2.2.2.2.2.2.2.2.2.1)) fun y_10 => T.opt (fault_Wrap (y_10, (9 : Int), (0 : Int))) fun y_11 => T.ite (!y_11.isNil) (T.ret (Ex.ret, ([], [], [], (0 : Int), [], (((0 : Int), (0 : Int), (0 : Int)), ((0 : Int), (0 : Int), (0 : Int)), ((0 : Int), (0 : Int), (0 : Int)), (0 : Int), (0 : Int), (0 : Int)), (0 : Int), (0 : Int)), y_11, (List.take y.2.2.1.1.length y.2.2.1.1, List.take y.2.2.1.2.1.length y.2.2.1.2.1, List.take y.2.2.1.2.2.1.length y.2.2.1.2.2.1, y.2.2.1.2.2.2.1, List.take y.2.2.1.2.2.2.2.1.length y.2.2.1.2.2.2.2.1, (y_4, y_5, y_6, y_7, y_8, y_9), y.2.2.1.2.2.2.2.2.2.1, y.2.2.1.2.2.2.2.2.2.2.1, y.2.2.1.2.2.2.2.2.2.2.2.1, y.2.2.1.2.2.2.2.2.2.2.2.2.1, y.2.2.1.2.2.2.2.2.2.2.2.2.2.1, ()), x.2.2.2.1, x.2.2.2.2.1, x.2.2.2.2.2.1, ())) (T.ret (Ex.normal, y.2.1, x.2.1, (List.take y.2.2.1.1.length y.2.2.1.1, List.take y.2.2.1.2.1.length y.2.2.1.2.1, List.take y.2.2.1.2.2.1.length y.2.2.1.2.2.1, y.2.2.1.2.2.2.1, List.take y.2.2.1.2.2.2.2.1.length y.2.2.1.2.2.2.2.1, (y_4, y_5, y_6, y_7, y_8, y_9), y.2.2.1.2.2.2.2.2.2.1, y.2.2.1.2.2.2.2.2.2.2.1, y.2.2.1.2.2.2.2.2.2.2.2.1, y.2.2.1.2.2.2.2.2.2.2.2.2.1, y.2.2.1.2.2.2.2.2.2.2.2.2.2.1, ()), x.2.2.2.1, x.2.2.2.2.1, W (x.2.2.2.2.2.1 + (1 : Int)), ()))) (T.ite false (T.ret (Ex.ret, ([], [], [], (0 : Int), [], (((0 : Int), (0 : Int), (0 : Int)), ((0 : Int), (0 : Int), (0 : Int)), ((0 : Int), (0 : Int), (0 : Int)), (0 : Int), (0 : Int), (0 : Int)), (0 : Int), (0 : Int)), ErrD.nil, (List.take y.2.2.1.1.length y.2.2.1.1, List.take y.2.2.1.2.1.length y.2.2.1.2.1, List.take y.2.2.1.2.2.1.length y.2.2.1.2.2.1, y.2.2.1.2.2.2.1, List.take y.2.2.1.2.2.2.2.1.length y.2.2.1.2.2.2.2.1, (y_4, y_5, y_6, y_7, y_8, y_9), y.2.2.1.2.2.2.2.2.2.1, y.2.2.1.2.2.2.2.2.2.2.1, mset y.2.2.1.2.2.2.2.2.2.2.2.1 (ByteArray.mk #[99, 97, 109, 101, 114, 97]) true, y.2.2.1.2.2.2.2.2.2.2.2.2.1, y.2.2.1.2.2.2.2.2.2.2.2.2.2.1, ()), x.2.2.2.1, x.2.2.2.2.1, x.2.2.2.2.2.1, ())) (T.ret (Ex.normal, y.2.1, x.2.1, (List.take y.2.2.1.1.length y.2.2.1.1, List.take y.2.2.1.2.1.length y.2.2.1.2.1, List.take y.2.2.1.2.2.1.length y.2.2.1.2.2.1, y.2.2.1.2.2.2.1, List.take y.2.2.1.2.2.2.2.1.length y.2.2.1.2.2.2.2.1, (y_4, y_5, y_6, y_7, y_8, y_9), y.2.2.1.2.2.2.2.2.2.1, y.2.2.1.2.2.2.2.2.2.2.1, mset y.2.2.1.2.2.2.2.2.2.2.2.1 (ByteArray.mk #[99, 97, 109, 101, 114, 97]) true, y.2.2.1.2.2.2.2.2.2.2.2.2.1, y.2.2.1.2.2.2.2.2.2.2.2.2.2.1, ()), x.2.2.2.1, x.2.2.2.2.1, W (x.2.2.2.2.2.1 + (1 : Int)), ())))) T.fail) T.fail) T.fail) T.fail) T.fail) T.fail) (T.opt (parse_point (List.take y.2.2.2.2.1.length y.2.2.2.2.1)) fun y_4 => T.ite (decide ((0 : Int) ≤ (3 : Int)) && decide ((3 : Int) ≤ (↑y.2.2.2.2.1.length : Int)) && decide ((↑y.2.2.2.2.1.length : Int) ≤ (↑y.2.2.2.2.1.length : Int))) (T.opt (parse_point (List.take ((↑y.2.2.2.2.1.length : Int).toNat - Int.toNat (3 : Int)) (List.drop ((0 : Nat) + Int.toNat (3 : Int)) y.2.2.2.2.1))) fun y_5 => T.ite (decide ((0 : Int) ≤ (6 : Int)) && decide ((6 : Int) ≤ (↑y.2.2.2.2.1.length : Int)) && decide ((↑y.2.2.2.2.1.length : Int) ≤ (↑y.2.2.2.2.1.length : Int))) (T.opt (parse_point (List.take ((↑y.2.2.2.2.1.length : Int).toNat - Int.toNat (6 : Int)) (List.drop ((0 : Nat) + Int.toNat (6 : Int)) y.2.2.2.2.1))) fun y_6 => T.ite (decide ((0 : Int) ≤ (9 : Int)) && decide ((9 : Int) < (↑y.2.2.2.2.1.length : Int))) (T.opt y.2.2.2.2.1[(0 : Nat) + Int.toNat (9 : Int)]? fun y_7 => T.ite (decide ((0 : Int) ≤ (10 : Int)) && decide ((10 : Int) < (↑y.2.2.2.2.1.length : Int))) (T.opt y.2.2.2.2.1[(0 : Nat) + Int.toNat (10 : Int)]? fun y_8 => T.ite (decide ((0 : Int) ≤ (11 : Int)) && decide ((11 : Int) < (↑y.2.2.2.2.1.length : Int))) (T.opt y.2.2.2.2.1[(0 : Nat) + Int.toNat (11 : Int)]? fun y_9 => T.ite ((mget y.2.2.1.2.2.2.2.2.2.2.2.1 (ByteArray.mk #[99, 97, 109, 101, 114, 97])).getD false) (T.opt (fault_New ((2 : Int), y.2.2.1.2.2.2.2.2.2.2.2.2.1)) fun y_10 => T.opt (fault_Wrap (y_10, (9 : Int), (0 : Int))) fun y_11 => T.ite (!y_11.isNil) (T.ret (Ex.ret, ([], [], [], (0 : Int), [], (((0 : Int), (0 : Int), (0 : Int)), ((0 : Int), (0 : Int), (0 : Int)), ((0 : Int), (0 : Int), (0 : Int)), (0 : Int), (0 : Int), (0 : Int)), (0 : Int), (0 : Int)), y_11, (List.take y.2.2.1.1.length y.2.2.1.1, List.take y.2.2.1.2.1.length y.2.2.1.2.1, List.take y.2.2.1.2.2.1.length y.2.2.1.2.2.1, y.2.2.1.2.2.2.1, List.take y.2.2.1.2.2.2.2.1.length y.2.2.1.2.2.2.2.1, (y_4, y_5, y_6, y_7, y_8, y_9), y.2.2.1.2.2.2.2.2.2.1, y.2.2.1.2.2.2.2.2.2.2.1, y.2.2.1.2.2.2.2.2.2.2.2.1, y.2.2.1.2.2.2.2.2.2.2.2.2.1, y.2.2.1.2.2.2.2.2.2.2.2.2.2.1, ()), x.2.2.2.1, x.2.2.2.2.1, x.2.2.2.2.2.1, ())) (T.ret (Ex.normal, y.2.1, x.2.1, (List.take y.2.2.1.1.length y.2.2.1.1, List.take y.2.2.1.2.1.length y.2.2.1.2.1, List.take y.2.2.1.2.2.1.length y.2.2.1.2.2.1, y.2.2.1.2.2.2.1, List.take y.2.2.1.2.2.2.2.1.length y.2.2.1.2.2.2.2.1, (y_4, y_5, y_6, y_7, y_8, y_9), y.2.2.1.2.2.2.2.2.2.1, y.2.2.1.2.2.2.2.2.2.2.1, y.2.2.1.2.2.2.2.2.2.2.2.1, y.2.2.1.2.2.2.2.2.2.2.2.2.1, y.2.2.1.2.2.2.2.2.2.2.2.2.2.1, ()), x.2.2.2.1, x.2.2.2.2.1, W (x.2.2.2.2.2.1 + (1 : Int)), ()))) (T.ite false (T.ret (Ex.ret, ([], [], [], (0 : Int), [], (((0 : Int), (0 : Int), (0 : Int)), ((0 : Int), (0 : Int), (0 : Int)), ((0 : Int), (0 : Int), (0 : Int)), (0 : Int), (0 : Int), (0 : Int)), (0 : Int), (0 : Int)), ErrD.nil, (List.take y.2.2.1.1.length y.2.2.1.1, List.take y.2.2.1.2.1.length y.2.2.1.2.1, List.take y.2.2.1.2.2.1.length y.2.2.1.2.2.1, y.2.2.1.2.2.2.1, List.take y.2.2.1.2.2.2.2.1.length y.2.2.1.2.2.2.2.1, (y_4, y_5, y_6, y_7, y_8, y_9), y.2.2.1.2.2.2.2.2.2.1, y.2.2.1.2.2.2.2.2.2.2.1, mset y.2.2.1.2.2.2.2.2.2.2.2.1 (ByteArray.mk #[99, 97, 109, 101, 114, 97]) true, y.2.2.1.2.2.2.2.2.2.2.2.2.1, y.2.2.1.2.2.2.2.2.2.2.2.2.2.1, ()), x.2.2.2.1, x.2.2.2.2.1, x.2.2.2.2.2.1, ())) (T.ret (Ex.normal, y.2.1, x.2.1, (List.take y.2.2.1.1.length y.2.2.1.1, List.take y.2.2.1.2.1.length y.2.2.1.2.1, List.take y.2.2.1.2.2.1.length y.2.2.1.2.2.1, y.2.2.1.2.2.2.1, List.take y.2.2.1.2.2.2.2.1.length y.2.2.1.2.2.2.2.1, (y_4, y_5, y_6, y_7, y_8, y_9), y.2.2.1.2.2.2.2.2.2.1, y.2.2.1.2.2.2.2.2.2.2.1, mset y.2.2.1.2.2.2.2.2.2.2.2.1 (ByteArray.mk #[99, 97, 109, 101, 114, 97]) true, y.2.2.1.2.2.2.2.2.2.2.2.2.1, y.2.2.1.2.2.2.2.2.2.2.2.2.2.1, ()), x.2.2.2.1, x.2.2.2.2.1, W (x.2.2.2.2.2.1 + (1 : Int)), ())))) T.fail) T.fail) T.fail) T.fail) T.fail)))))))))) T.fail))) T.fail)) (T.ret (Ex.exit (0 : Nat), x.1, x.2.1, (List.take x.2.2.1.1.length x.2.2.1.1, List.take x.2.2.1.2.1.length x.2.2.1.2.1, List.take x.2.2.1.2.2.1.length x.2.2.1.2.2.1, x.2.2.1.2.2.2.1, List.take x.2.2.1.2.2.2.2.1.length x.2.2.1.2.2.2.2.1, x.2.2.1.2.2.2.2.2.1, x.2.2.1.2.2.2.2.2.2.1, x.2.2.1.2.2.2.2.2.2.2.1, x.2.2.1.2.2.2.2.2.2.2.2.1, x.2.2.1.2.2.2.2.2.2.2.2.2.1, x.2.2.1.2.2.2.2.2.2.2.2.2.2.1, ()), x.2.2.2.1, x.2.2.2.2.1, x.2.2.2.2.2.1, ()))
noncomputable def parse_Parse.l0 (x : ((List ((Int × Int × Int) × (Int × Int × Int) × Int)) × (List ((Int × Int × Int) × (Int × Int × Int) × (Int × Int × Int) × Int)) × (List (Int × Int × Int × Int)) × Int × (List (Int × Int × Int)) × ((Int × Int × Int) × (Int × Int × Int) × (Int × Int × Int) × Int × Int × Int) × Int × Int) × ErrD × (List ((Int × Int × Int) × (Int × Int × Int) × Int) × List ((Int × Int × Int) × (Int × Int × Int) × (Int × Int × Int) × Int) × List (Int × Int × Int × Int) × Int × List (Int × Int × Int) × ((Int × Int × Int) × (Int × Int × Int) × (Int × Int × Int) × Int × Int × Int) × Int × Int × List (ByteArray × Bool) × Int × (List (ByteArray)) × Unit) × (List (Int × List (ByteArray))) × Int × Int × Unit) : Option (Ex × ((List ((Int × Int × Int) × (Int × Int × Int) × Int)) × (List ((Int × Int × Int) × (Int × Int × Int) × (Int × Int × Int) × Int)) × (List (Int × Int × Int × Int)) × Int × (List (Int × Int × Int)) × ((Int × Int × Int) × (Int × Int × Int) × (Int × Int × Int) × Int × Int × Int) × Int × Int) × ErrD × (List ((Int × Int × Int) × (Int × Int × Int) × Int) × List ((Int × Int × Int) × (Int × Int × Int) × (Int × Int × Int) × Int) × List (Int × Int × Int × Int) × Int × List (Int × Int × Int) × ((Int × Int × Int) × (Int × Int × Int) × (Int × Int × Int) × Int × Int × Int) × Int × Int × List (ByteArray × Bool) × Int × (List (ByteArray)) × Unit) × (List (Int × List (ByteArray))) × Int × Int × Unit) := (iterT parse_Parse.t0 rounds x).run
theorem parse_Parse.k0 : bodies 0 (lp Tryz.f12 []) = [.loop (loopIn 0 (lp Tryz.f12 []))] ∧ WP Tryz.prog 0 (.block 0 (.loop (loopIn 0 (lp Tryz.f12 [])))) (loopS parse_Parse.L0 57 0 [.exit 0, .ret] parse_Parse.l0) :=
  loop_tree (L := parse_Parse.L0) (F := (dpT Tryz.prog (ext (ext (ext (ext (ext (ext (ext (ext (ext (ext Xs 30 parse_bad.q) 31 lex_Lines.q) 51 parse_takes.q) 77 parse_point.q) 47 fault_Wrap.q) 48 fault_New.q) 75 lex_Number.q) 76 lex_Whole.q) 86 scene_lights_1.q) 100 scene_within_1.q) parse_Parse.deeps parse_Parse.tabl 100 8)) (D := (inL parse_Parse.deeps.D)) (tab := []) (t := parse_Parse.t0) mixed (dpT_ok mixed (quiet_ext (quiet_ext (quiet_ext (quiet_ext (quiet_ext (quiet_ext (quiet_ext (quiet_ext (quiet_ext (quiet_ext Xok parse_bad.ok) lex_Lines.ok) parse_takes.ok) parse_point.ok) fault_Wrap.ok) fault_New.ok) lex_Number.ok) lex_Whole.ok) scene_lights_1.ok) scene_within_1.ok) parse_Parse.deepsOk parse_Parse.tablOk 100 8).1 (dpT_ok mixed (quiet_ext (quiet_ext (quiet_ext (quiet_ext (quiet_ext (quiet_ext (quiet_ext (quiet_ext (quiet_ext (quiet_ext Xok parse_bad.ok) lex_Lines.ok) parse_takes.ok) parse_point.ok) fault_Wrap.ok) fault_New.ok) lex_Number.ok) lex_Whole.ok) scene_lights_1.ok) scene_within_1.ok) parse_Parse.deepsOk parse_Parse.tablOk 100 8).2 (fun _ => rfl) (by kernel_rfl) (by kernel_rfl) trivial (fun x => by kernel_rfl)
noncomputable def parse_Parse.t (x : ByteArray) : T (((List ((Int × Int × Int) × (Int × Int × Int) × Int)) × (List ((Int × Int × Int) × (Int × Int × Int) × (Int × Int × Int) × Int)) × (List (Int × Int × Int × Int)) × Int × (List (Int × Int × Int)) × ((Int × Int × Int) × (Int × Int × Int) × (Int × Int × Int) × Int × Int × Int) × Int × Int) × ErrD) := T.ite (decide ((↑(ByteArray.size x) : Int) > (262144 : Int))) (T.opt (parse_bad (4 : Int)) fun y => T.ret (([], [], [], (0 : Int), [], (((0 : Int), (0 : Int), (0 : Int)), ((0 : Int), (0 : Int), (0 : Int)), ((0 : Int), (0 : Int), (0 : Int)), (0 : Int), (0 : Int), (0 : Int)), (0 : Int), (0 : Int)), y)) (T.opt (lex_Lines x) fun y => T.opt (parse_Parse.l0 (([], [], [], (0 : Int), [], (((0 : Int), (0 : Int), (0 : Int)), ((0 : Int), (0 : Int), (0 : Int)), ((0 : Int), (0 : Int), (0 : Int)), (0 : Int), (0 : Int), (0 : Int)), (0 : Int), (0 : Int)), ErrD.nil, ([], [], [], (0 : Int), [], (((0 : Int), (0 : Int), (0 : Int)), ((0 : Int), (0 : Int), (0 : Int)), ((0 : Int), (0 : Int), (0 : Int)), (0 : Int), (0 : Int), (0 : Int)), (1 : Int), (512 : Int), [], (0 : Int), [], ()), y, (↑y.length : Int), (0 : Int), ())) fun y => T.ite (exEq y.1 (Ex.exit (0 : Nat))) (T.ite (!(mget y.2.2.2.1.2.2.2.2.2.2.2.2.1 (ByteArray.mk #[99, 97, 109, 101, 114, 97])).getD false) (T.opt (parse_bad (8 : Int)) fun y => T.ret (([], [], [], (0 : Int), [], (((0 : Int), (0 : Int), (0 : Int)), ((0 : Int), (0 : Int), (0 : Int)), ((0 : Int), (0 : Int), (0 : Int)), (0 : Int), (0 : Int), (0 : Int)), (0 : Int), (0 : Int)), y)) (T.opt (scene_Check (List.take y.2.2.2.1.1.length y.2.2.2.1.1, List.take y.2.2.2.1.2.1.length y.2.2.2.1.2.1, List.take y.2.2.2.1.2.2.1.length y.2.2.2.1.2.2.1, y.2.2.2.1.2.2.2.1, List.take y.2.2.2.1.2.2.2.2.1.length y.2.2.2.1.2.2.2.2.1, y.2.2.2.1.2.2.2.2.2.1, y.2.2.2.1.2.2.2.2.2.2.1, y.2.2.2.1.2.2.2.2.2.2.2.1)) fun y_1 => T.ite y_1.isFault (T.ret (([], [], [], (0 : Int), [], (((0 : Int), (0 : Int), (0 : Int)), ((0 : Int), (0 : Int), (0 : Int)), ((0 : Int), (0 : Int), (0 : Int)), (0 : Int), (0 : Int), (0 : Int)), (0 : Int), (0 : Int)), ErrD.fault y_1.faultC y_1.faultL y_1.faultE)) (T.ret ((List.take y.2.2.2.1.1.length y.2.2.2.1.1, List.take y.2.2.2.1.2.1.length y.2.2.2.1.2.1, List.take y.2.2.2.1.2.2.1.length y.2.2.2.1.2.2.1, y.2.2.2.1.2.2.2.1, List.take y.2.2.2.1.2.2.2.2.1.length y.2.2.2.1.2.2.2.2.1, y.2.2.2.1.2.2.2.2.2.1, y.2.2.2.1.2.2.2.2.2.2.1, y.2.2.2.1.2.2.2.2.2.2.2.1), ErrD.nil)))) (T.ite (exEq y.1 Ex.ret) (T.ret (y.2.1, y.2.2.1)) T.fail))
noncomputable def parse_Parse (x : ByteArray) : Option (((List ((Int × Int × Int) × (Int × Int × Int) × Int)) × (List ((Int × Int × Int) × (Int × Int × Int) × (Int × Int × Int) × Int)) × (List (Int × Int × Int × Int)) × Int × (List (Int × Int × Int)) × ((Int × Int × Int) × (Int × Int × Int) × (Int × Int × Int) × Int × Int × Int) × Int × Int) × ErrD) := (parse_Parse.t x).run
noncomputable def parse_Parse.q : List AV → T AV := entry [.str] (outR [TScn, TE]) fun x => .opt (parse_Parse x) .ret
theorem parse_Parse.ok : FnOK Tryz.prog 12 parse_Parse.q :=
  entry_call (ps := [.str]) (rs := [TScn, TE]) (F := (dpT Tryz.prog (ext (ext (ext (ext (ext (ext (ext (ext (ext (ext Xs 30 parse_bad.q) 31 lex_Lines.q) 51 parse_takes.q) 77 parse_point.q) 47 fault_Wrap.q) 48 fault_New.q) 75 lex_Number.q) 76 lex_Whole.q) 86 scene_lights_1.q) 100 scene_within_1.q) parse_Parse.deeps parse_Parse.tabl 100 8)) (D := (inL parse_Parse.deeps.D)) (S := tabS [(0, loopS parse_Parse.L0 57 0 [.exit 0, .ret] parse_Parse.l0)]) (t := parse_Parse.t) mixed (dpT_ok mixed (quiet_ext (quiet_ext (quiet_ext (quiet_ext (quiet_ext (quiet_ext (quiet_ext (quiet_ext (quiet_ext (quiet_ext Xok parse_bad.ok) lex_Lines.ok) parse_takes.ok) parse_point.ok) fault_Wrap.ok) fault_New.ok) lex_Number.ok) lex_Whole.ok) scene_lights_1.ok) scene_within_1.ok) parse_Parse.deepsOk parse_Parse.tablOk 100 8).1 (dpT_ok mixed (quiet_ext (quiet_ext (quiet_ext (quiet_ext (quiet_ext (quiet_ext (quiet_ext (quiet_ext (quiet_ext (quiet_ext Xok parse_bad.ok) lex_Lines.ok) parse_takes.ok) parse_point.ok) fault_Wrap.ok) fault_New.ok) lex_Number.ok) lex_Whole.ok) scene_lights_1.ok) scene_within_1.ok) parse_Parse.deepsOk parse_Parse.tablOk 100 8).2 Tryz.func12 (by kernel_rfl) (sok_fn ⟨parse_Parse.k0, trivial⟩) (by kernel_rfl) (fun x => by kernel_rfl)
end Go.Proofs.Pen

namespace Go.Proofs.Pen
open Go Go.Proofs
def parse_Line.L0 : List (Nat × Lay) := [(2, .val .str), (3, .val TI), (7, .val (.sl (.st (.pair TI (.sl .str))))), (8, .val TI), (9, .val TI)]
noncomputable def parse_Line.t0 (x : ByteArray × Int × (List (Int × List (ByteArray))) × Int × Int × Unit) : T (Ex × ByteArray × Int × (List (Int × List (ByteArray))) × Int × Int × Unit) := T.ite (decide (x.2.2.2.2.1 < x.2.2.2.1)) (T.opt (lget x.2.2.1 x.2.2.2.2.1) fun y => T.opt (lget y.2 (0 : Int)) fun y_1 => T.ret (Ex.ret, y_1, y.1, x.2.2.1, x.2.2.2.1, x.2.2.2.2.1, ())) (T.ret (Ex.exit (0 : Nat), x.1, x.2.1, x.2.2.1, x.2.2.2.1, x.2.2.2.2.1, ()))
noncomputable def parse_Line.l0 (x : ByteArray × Int × (List (Int × List (ByteArray))) × Int × Int × Unit) : Option (Ex × ByteArray × Int × (List (Int × List (ByteArray))) × Int × Int × Unit) := (iterT parse_Line.t0 rounds x).run
theorem parse_Line.k0 : bodies 0 (lp Tryz.f17 []) = [.loop (loopIn 0 (lp Tryz.f17 []))] ∧ WP Tryz.prog 0 (.block 0 (.loop (loopIn 0 (lp Tryz.f17 [])))) (loopS parse_Line.L0 20 0 [.exit 0, .ret] parse_Line.l0) :=
  loop_tree (L := parse_Line.L0) (F := ({ quiet := (ext Xs 31 lex_Lines.q), deep := noDeep } : Fns)) (D := D0) (tab := []) (t := parse_Line.t0) mixed (quiet_ext Xok lex_Lines.ok) (deep_none _) (fun _ => rfl) (by kernel_rfl) (by kernel_rfl) trivial (fun x => by kernel_rfl)
noncomputable def parse_Line.t (x : ByteArray) : T (ByteArray × Int) := T.opt (lex_Lines x) fun y => T.opt (parse_Line.l0 ((ByteArray.mk #[]), (0 : Int), y, (↑y.length : Int), (0 : Int), ())) fun y => T.ite (exEq y.1 (Ex.exit (0 : Nat))) (T.ret ((ByteArray.mk #[]), (0 : Int))) (T.ite (exEq y.1 Ex.ret) (T.ret (y.2.1, y.2.2.1)) T.fail)
noncomputable def parse_Line (x : ByteArray) : Option (ByteArray × Int) := (parse_Line.t x).run
noncomputable def parse_Line.q : List AV → T AV := entry [.str] (outR [.str, TI]) fun x => .opt (parse_Line x) .ret
theorem parse_Line.ok : FnOK Tryz.prog 17 parse_Line.q :=
  entry_call (ps := [.str]) (rs := [.str, TI]) (F := ({ quiet := (ext Xs 31 lex_Lines.q), deep := noDeep } : Fns)) (D := D0) (S := tabS [(0, loopS parse_Line.L0 20 0 [.exit 0, .ret] parse_Line.l0)]) (t := parse_Line.t) mixed (quiet_ext Xok lex_Lines.ok) (deep_none _) Tryz.func17 (by kernel_rfl) (sok_fn ⟨parse_Line.k0, trivial⟩) (by kernel_rfl) (fun x => by kernel_rfl)
end Go.Proofs.Pen

namespace Go.Proofs.Pen
open Go Go.Proofs
set_option maxRecDepth 100000
noncomputable def law24_awake.q : List AV → T AV := entry [] (outR [.bool]) fun _ => .ret (true : dens [.bool])
theorem law24_awake.ok : FnOK Tryz.prog 9 law24_awake.q := peT_entry mixed (quiet_ext (quiet_ext Xok parse_Parse.ok) parse_Line.ok) [19, 12, 17] tbOk 1000 20 Tryz.func9 (by kernel_rfl) (by kernel_rfl)
end Go.Proofs.Pen

namespace Go.Proofs.Pen
open Go Go.Proofs
noncomputable def errors_Unwrap.t (x : ErrD) : T (ErrD) := T.ite (!ErrD.isFault x) (T.ret ErrD.nil) (T.ite (ErrD.onlyF x).isFault (T.ret (ErrD.onlyF x).faultE) (T.ite (ErrD.onlyF x).isCode T.fail T.fail))
noncomputable def errors_Unwrap (x : ErrD) : Option (ErrD) := (errors_Unwrap.t x).run
noncomputable def errors_Unwrap.q : List AV → T AV := entry [TE] (outR [TE]) fun x => .opt (errors_Unwrap x) .ret
theorem errors_Unwrap.ok : FnOK Tryz.prog 70 errors_Unwrap.q :=
  entry_call (ps := [TE]) (rs := [TE]) (F := ({ quiet := (ext Xs 156 fault_Fault_Unwrap.q), deep := noDeep } : Fns)) (D := D0) (S := tabS []) (t := errors_Unwrap.t) mixed (quiet_ext Xok fault_Fault_Unwrap.ok) (deep_none _) Tryz.func70 (by kernel_rfl) (sok_fn trivial) (by kernel_rfl) (fun x => by kernel_rfl)
end Go.Proofs.Pen

namespace Go.Proofs.Pen
open Go Go.Proofs
noncomputable def eachLine.deeps : Deeps := { D := [43], C := [], frz := false, S := fun _ _ => noS }
theorem eachLine.deepsOk : LoopsOK Tryz.prog eachLine.deeps.S := (loops_none _)
def eachLine.L0 : List (Nat × Lay) := [(9000, .blk 0 TI), (0, .val TE), (1, .clo 43 [0]), (4, .val TI)]
noncomputable def eachLine.t0 (x : Int × ErrD × Int × Unit) : T (Ex × Int × ErrD × Int × Unit) := T.ite (!ErrD.isNil x.2.1 && decide (x.2.2.1 < (64 : Int))) (T.ite (ErrD.isFault x.2.1 && x.1 == (0 : Int)) (T.opt (errors_Unwrap x.2.1) fun y => T.ret (Ex.normal, ErrD.faultL x.2.1, y, W (x.2.2.1 + (1 : Int)), ())) (T.opt (errors_Unwrap x.2.1) fun y => T.ret (Ex.normal, x.1, y, W (x.2.2.1 + (1 : Int)), ()))) (T.ret (Ex.exit (0 : Nat), x.1, x.2.1, x.2.2.1, ()))
noncomputable def eachLine.l0 (x : Int × ErrD × Int × Unit) : Option (Ex × Int × ErrD × Int × Unit) := (iterT eachLine.t0 rounds x).run
theorem eachLine.k0 : bodies 0 (lp Tryz.f42 []) = [.loop (loopIn 0 (lp Tryz.f42 []))] ∧ WP Tryz.prog 1 (.block 0 (.loop (loopIn 0 (lp Tryz.f42 [])))) (loopS eachLine.L0 18 0 [.exit 0] eachLine.l0) :=
  loop_treeN 1 (L := eachLine.L0) (F := (dp Tryz.prog (ext Xs 70 errors_Unwrap.q) eachLine.deeps 100 8)) (D := (inL eachLine.deeps.D)) (tab := []) (t := eachLine.t0) mixed (dp_ok mixed (quiet_ext Xok errors_Unwrap.ok) eachLine.deepsOk 100 8).1 (dp_ok mixed (quiet_ext Xok errors_Unwrap.ok) eachLine.deepsOk 100 8).2 (fun _ => rfl) (by kernel_rfl) (by kernel_rfl) trivial (fun x => by kernel_rfl)
noncomputable def eachLine.S : List (Nat × (St → T (Ex × St))) := [(0, loopS eachLine.L0 18 0 [.exit 0] eachLine.l0)]
theorem eachLine.tab : TabOK Tryz.prog 1 (codeOf Tryz.f42) eachLine.S := ⟨eachLine.k0, trivial⟩
end Go.Proofs.Pen

namespace Go.Proofs.Pen
open Go Go.Proofs
noncomputable def fault_Line.deeps : Deeps := { D := [42, 43], C := [], frz := false, S := extSn (fun _ _ => noS) 42 1 (tabS eachLine.S) }
theorem fault_Line.deepsOk : LoopsOK Tryz.prog fault_Line.deeps.S := (loops_extn (loops_none _) Tryz.func42 eachLine.tab)
noncomputable def fault_Line.t (x : ErrD) : T (Int) := T.opt (eachLine.l0 ((0 : Int), x, (0 : Int), ())) fun y => T.ite (exEq y.1 (Ex.exit (0 : Nat))) (T.ret y.2.1) T.fail
noncomputable def fault_Line (x : ErrD) : Option (Int) := (fault_Line.t x).run
noncomputable def fault_Line.q : List AV → T AV := entry [TE] (outR [TI]) fun x => .opt (fault_Line x) .ret
theorem fault_Line.ok : FnOK Tryz.prog 21 fault_Line.q :=
  entry_call (ps := [TE]) (rs := [TI]) (F := (dp Tryz.prog Xs fault_Line.deeps 100 8)) (D := (inL fault_Line.deeps.D)) (S := tabS []) (t := fault_Line.t) mixed (dp_ok mixed Xok fault_Line.deepsOk 100 8).1 (dp_ok mixed Xok fault_Line.deepsOk 100 8).2 Tryz.func21 (by kernel_rfl) (sok_fn trivial) (by kernel_rfl) (fun x => by kernel_rfl)
end Go.Proofs.Pen

namespace Go.Proofs.Pen
open Go Go.Proofs
end Go.Proofs.Pen

namespace Go.Proofs.Pen
open Go Go.Proofs
end Go.Proofs.Pen

namespace Go.Proofs.Pen
open Go Go.Proofs

theorem Line_two (a b l : Int) : fault_Line (.fault a 0 (.fault b l .nil)) = some l := by
  unfold fault_Line fault_Line.t eachLine.l0
  obtain ⟨k, hk⟩ : ∃ k, rounds = k + 4 := ⟨rounds - 4, by unfold rounds; omega⟩
  rw [hk]
  have s0 : (eachLine.t0 (0, .fault a 0 (.fault b l .nil), 0, ())).run = some (.normal, 0, .fault b l .nil, 1, ()) := rfl
  have s1 : (eachLine.t0 (0, .fault b l .nil, 1, ())).run = some (.normal, l, .nil, 2, ()) := rfl
  have s2 : (eachLine.t0 (l, .nil, 2, ())).run = some (.exit 0, l, .nil, 2, ()) := rfl
  rw [tr_opt, iter_go s0, iter_go s1, iter_stop (by simp) s2]
  rfl

end Go.Proofs.Pen

namespace Go.Proofs.Pen
open Go Go.Proofs
end Go.Proofs.Pen

namespace Go.Proofs.Pen
open Go Go.Proofs
end Go.Proofs.Pen

namespace Go.Proofs.Pen
open Go Go.Proofs
end Go.Proofs.Pen

namespace Go.Proofs.Pen
open Go Go.Proofs
end Go.Proofs.Pen

namespace Go.Proofs.Pen
open Go Go.Proofs
end Go.Proofs.Pen

namespace Go.Proofs.Pen
open Go Go.Proofs
end Go.Proofs.Pen

namespace Go.Proofs.Pen
open Go Go.Proofs

noncomputable def num1 (b : Bool) (x : ByteArray) : Option Int := match kv x with
  | none => none
  | some k => if b = true then (if k.tmod 1024 = 0 then some (k.tdiv 1024) else none) else some k
noncomputable def nums (wh : Int) : Nat → List ByteArray → Option (List Int)
  | _, [] => some []
  | i, x :: l => match num1 (decide ((i : Int) < wh)) x with
    | none => none
    | some k => match nums wh (i + 1) l with
      | none => none
      | some ks => some (k :: ks)

theorem kv_in {x : ByteArray} {k : Int} (h : kv x = some k) : -1099511627776 ≤ k ∧ k ≤ 1099511627776 := by
  rcases both x with ⟨e1, _⟩ | ⟨j, h0, h1, _, e1, _⟩
  · unfold kv at h; rw [e1] at h; cases h
  · unfold kv at h; rw [e1] at h; cases h; exact ⟨h0, h1⟩
theorem W_tdiv {k : Int} (h : -1099511627776 ≤ k ∧ k ≤ 1099511627776) : W (k.tdiv 1024) = k.tdiv 1024 := by
  have h3 := Int.tmod_add_mul_tdiv k 1024
  have := (tdv k (k := 1024) (by omega))
  exact W_id (by omega) (by omega)

theorem Number_num (x : ByteArray) : ∃ r, lex_Number x = some r ∧ (num1 false x = none → r.2 = false) ∧ ∀ k, num1 false x = some k → r = (k, true) := by
  unfold num1
  cases hk : kv x with
  | none => exact ⟨_, (kv_none hk).1, fun _ => rfl, fun k h => by simp at h⟩
  | some k => exact ⟨_, (kv_some hk).1, fun h => by simp at h, fun j h => by simp at h; rw [h]⟩
theorem Whole_num (x : ByteArray) : ∃ r, lex_Whole x = some r ∧ (num1 true x = none → r.2 = false) ∧ ∀ k, num1 true x = some k → r = (k, true) := by
  unfold lex_Whole lex_Whole.t num1
  cases hk : kv x with
  | none =>
    rw [(kv_none hk).1, tr_opt, Option.bind_some]
    dsimp only
    rw [tr_yes (b := !false) rfl, tr_ret]
    exact ⟨_, rfl, fun _ => rfl, fun k h => by simp at h⟩
  | some k =>
    rw [(kv_some hk).1, tr_opt, Option.bind_some]
    dsimp only
    rw [tr_no (b := !true) rfl, W_tdiv (kv_in hk)]
    by_cases hm : k.tmod 1024 = 0
    · rw [tr_no (by simp [hm]), tr_ret]
      exact ⟨_, rfl, fun h => by simp [hm] at h, fun j h => by simp [hm] at h; rw [h]⟩
    · rw [tr_yes (by simpa using hm), tr_ret]
      exact ⟨_, rfl, fun _ => rfl, fun j h => by simp [hm] at h⟩

theorem room8 {n : Nat} (h : n < 100000) : decide ((n + 1) * 8 ≤ most) = true := by
  rw [decide_eq_true_eq]; exact room h (by omega)

abbrev Rdr := List MatT × List TriT × List LitT × Int × List W3 × CamT × Int × Int × List (ByteArray × Bool) × Int × List ByteArray × Unit

theorem num_loop (z : ScT) (O : Rdr) (wh : Int) : ∀ (post pre : List ByteArray) (out : List Int) (m : Nat), pre.length + post.length ≤ 6000 → out.length ≤ pre.length → post.length < m →
    match nums wh pre.length post with
    | some ks => ∃ y, (iterT numLoop.t0 m (z, O, wh, [], .nil, out, pre ++ post, ((pre.length + post.length : Nat) : Int), (pre.length : Int), ())).run = some (.exit 0, z, O, wh, [], .nil, out ++ ks, y)
    | none => ∃ y, (iterT numLoop.t0 m (z, O, wh, [], .nil, out, pre ++ post, ((pre.length + post.length : Nat) : Int), (pre.length : Int), ())).run = some (.ret, z, O, wh, [], mkErr (some (9, 6, O.2.2.2.2.2.2.2.2.2.1)), y)
  | post, pre, out, 0, _, _, hm => absurd hm (Nat.not_lt_zero _)
  | [], pre, out, m + 1, hl, ho, hm => by
    have e : (numLoop.t0 (z, O, wh, [], .nil, out, pre ++ [], ((pre.length + ([] : List ByteArray).length : Nat) : Int), (pre.length : Int), ())).run = some (.exit 0, z, O, wh, [], .nil, out, pre ++ [], ((pre.length + ([] : List ByteArray).length : Nat) : Int), (pre.length : Int), ()) := by
      unfold numLoop.t0
      dsimp only
      rw [tr_no (by simp), tr_ret]
      simp only [List.take_length]
    have e2 := iter_stop (n := m) (by simp) e
    unfold nums
    dsimp only
    rw [e2, List.append_nil, List.append_nil]
    exact ⟨_, rfl⟩
  | x :: post, pre, out, m + 1, hl, ho, hm => by
    simp only [List.length_cons] at hl hm
    have hlen : ((pre.length + (x :: post).length : Nat) : Int) = ((pre.length + post.length + 1 : Nat) : Int) := by simp only [List.length_cons]; omega
    have hW : W ((pre.length : Int) + 1) = ((pre.length + 1 : Nat) : Int) := by rw [W_id (by omega) (by omega)]; omega
    obtain ⟨mats, tris, lits, zones, cells, cam, kind, half, seen, ln, ws, u⟩ := O
    have e8 : (nat_lit 8 : Nat) = 8 := rfl
    have hroom : decide ((out.length + 1) * nat_lit 8 ≤ most) = true := room8 (by omega)
    have hout : ∀ k : Int, List.take (out.length + 1) (List.take out.length out ++ [k]) = out ++ [k] := fun k => by rw [List.take_length, List.take_of_length_le (by simp)]
    unfold nums
    cases hn : num1 (decide ((pre.length : Int) < wh)) x with
    | none =>
      have e : ∃ y, (numLoop.t0 (z, (mats, tris, lits, zones, cells, cam, kind, half, seen, ln, ws, u), wh, [], .nil, out, pre ++ x :: post, ((pre.length + (x :: post).length : Nat) : Int), (pre.length : Int), ())).run = some (.ret, z, (mats, tris, lits, zones, cells, cam, kind, half, seen, ln, ws, u), wh, [], mkErr (some (9, 6, ln)), y) := by
        unfold numLoop.t0
        dsimp only
        rw [tr_yes (by rw [hlen]; exact decide_eq_true (by omega)), tr_opt, lget_mid, Option.bind_some]
        cases hw : decide ((pre.length : Int) < wh) with
        | true =>
          rw [hw] at hn
          obtain ⟨r, h1, h2, _⟩ := Whole_num x
          rw [tr_yes (b := true) rfl, tr_opt, h1, Option.bind_some, tr_yes (by rw [h2 hn]; rfl), tr_opt, New_eq (by decide), Option.bind_some, tr_opt, Wrap_eq rfl (by decide), Option.bind_some, tr_ret]
          simp only [List.take_length]
          exact ⟨_, rfl⟩
        | false =>
          rw [hw] at hn
          obtain ⟨r, h1, h2, _⟩ := Number_num x
          rw [tr_no (b := false) rfl, tr_opt, h1, Option.bind_some, tr_yes (by rw [h2 hn]; rfl), tr_opt, New_eq (by decide), Option.bind_some, tr_opt, Wrap_eq rfl (by decide), Option.bind_some, tr_ret]
          simp only [List.take_length]
          exact ⟨_, rfl⟩
      obtain ⟨y, e⟩ := e
      exact ⟨y, by rw [iter_stop (by simp) e]⟩
    | some k =>
      have e : (numLoop.t0 (z, (mats, tris, lits, zones, cells, cam, kind, half, seen, ln, ws, u), wh, [], .nil, out, pre ++ x :: post, ((pre.length + (x :: post).length : Nat) : Int), (pre.length : Int), ())).run = some (.normal, z, (mats, tris, lits, zones, cells, cam, kind, half, seen, ln, ws, u), wh, [], .nil, out ++ [k], pre ++ x :: post, ((pre.length + (x :: post).length : Nat) : Int), ((pre.length + 1 : Nat) : Int), ()) := by
        unfold numLoop.t0
        dsimp only
        rw [tr_yes (by rw [hlen]; exact decide_eq_true (by omega)), tr_opt, lget_mid, Option.bind_some, hW]
        cases hw : decide ((pre.length : Int) < wh) with
        | true =>
          rw [hw] at hn
          obtain ⟨r, h1, _, h2⟩ := Whole_num x
          rw [tr_yes (b := true) rfl, tr_opt, h1, h2 k hn, Option.bind_some, tr_no (b := !true) rfl, tr_yes hroom, tr_ret, hout]
          simp only [List.take_length]
        | false =>
          rw [hw] at hn
          obtain ⟨r, h1, _, h2⟩ := Number_num x
          rw [tr_no (b := false) rfl, tr_opt, h1, h2 k hn, Option.bind_some, tr_no (b := !true) rfl, tr_yes hroom, tr_ret, hout]
          simp only [List.take_length]
      have ih := num_loop z (mats, tris, lits, zones, cells, cam, kind, half, seen, ln, ws, u) wh post (pre ++ [x]) (out ++ [k]) m (by simp; omega) (by simp; omega) (by omega)
      have e2 : (pre ++ [x]).length = pre.length + 1 := by simp
      have e3 : pre ++ [x] ++ post = pre ++ x :: post := by simp
      have e4 : ((pre.length + 1 + post.length : Nat) : Int) = ((pre.length + (x :: post).length : Nat) : Int) := by simp only [List.length_cons]; omega
      rw [e2, e3, e4] at ih
      cases hns : nums wh (pre.length + 1) post with
      | none =>
        rw [hns] at ih
        obtain ⟨y, ih⟩ := ih
        exact ⟨y, by rw [iter_go e]; exact ih⟩
      | some ks =>
        rw [hns] at ih
        obtain ⟨y, ih⟩ := ih
        refine ⟨y, ?_⟩
        rw [iter_go e, ih]
        simp

theorem nums_len (wh : Int) : ∀ (l : List ByteArray) (i : Nat) (ks : List Int), nums wh i l = some ks → ks.length = l.length
  | [], _, ks, h => by unfold nums at h; cases h; rfl
  | x :: l, i, ks, h => by
    unfold nums at h
    split at h
    · cases h
    · split at h
      · cases h
      · rename_i js hj
        cases h
        simp [nums_len wh l (i + 1) js hj]
end Go.Proofs.Pen

namespace Go.Proofs.Pen
open Go Go.Proofs

abbrev cMat : ByteArray := ByteArray.mk #[109, 97, 116]
abbrev cMatt : ByteArray := ByteArray.mk #[109, 97, 116, 116]
abbrev cTri : ByteArray := ByteArray.mk #[116, 114, 105]
abbrev cLight : ByteArray := ByteArray.mk #[108, 105, 103, 104, 116]
abbrev cSky : ByteArray := ByteArray.mk #[115, 107, 121]
abbrev cCell : ByteArray := ByteArray.mk #[99, 101, 108, 108]
abbrev cCam : ByteArray := ByteArray.mk #[99, 97, 109, 101, 114, 97]
abbrev cPin : ByteArray := ByteArray.mk #[112, 105, 110, 104, 111, 108, 101]
abbrev cFil : ByteArray := ByteArray.mk #[102, 105, 108, 116, 101, 114]

theorem code_mat (s : ScT) (seen : List (ByteArray × Bool)) (n0 : Int) (w0 : List ByteArray) (L : List (Int × List ByteArray)) (i : Nat) (hi : i < L.length) (hn : L.length ≤ 6001) (num : Int) (args : List ByteArray) (hg : L[i] = (num, cMat :: args)) (a0 a1 a2 a3 a4 a5 a6 : Int) (hk : nums 0 0 args = some [a0, a1, a2, a3, a4, a5, a6]) (hs : s.1.length ≤ 6001) :
    (parse_Parse.t0 (ZS, .nil, (s.1, s.2.1, s.2.2.1, s.2.2.2.1, s.2.2.2.2.1, s.2.2.2.2.2.1, s.2.2.2.2.2.2.1, s.2.2.2.2.2.2.2, seen, n0, w0, ()), L, (L.length : Int), (i : Int), ())).run =
      some (.normal, ZS, .nil, (s.1 ++ [((a0, a1, a2), (a3, a4, a5), a6)], s.2.1, s.2.2.1, s.2.2.2.1, s.2.2.2.2.1, s.2.2.2.2.2.1, s.2.2.2.2.2.2.1, s.2.2.2.2.2.2.2, seen, num, cMat :: args, ()), L, (L.length : Int), ((i + 1 : Nat) : Int), ()) := by
  have ha : args.length = 7 := (nums_len _ _ _ _ hk).symm
  unfold parse_Parse.t0
  dsimp only
  have hW : W ((i : Int) + 1) = ((i + 1 : Nat) : Int) := by rw [W_id (by omega) (by omega)]; omega
  have hL : lget L (i : Int) = some (num, cMat :: args) := by rw [lget_nat L hi, hg]
  have h0 : lget (cMat :: args) 0 = some cMat := rfl
  have ht : parse_takes cMat = some (7, 0, true) := by kernel_rfl
  rw [tr_yes (decide_eq_true (by omega)), tr_opt, hL, Option.bind_some, hW, tr_opt, h0, Option.bind_some, tr_opt, ht, Option.bind_some]
  dsimp only
  rw [tr_no (b := !true) rfl]
  have hlen : (cMat :: args).length = 8 := by simp [ha]
  have hdrop : List.take ((((cMat :: args).length : Nat) : Int).toNat - Int.toNat 1) (List.drop (Int.toNat 1) (cMat :: args)) = args := by
    rw [Int.toNat_natCast, hlen]
    show List.take 7 args = args
    exact List.take_of_length_le (by omega)
  rw [tr_yes (by rw [hlen]; rfl), hdrop, tr_no (by rw [ha]; rfl)]
  simp only [List.take_length]
  have key := num_loop ZS (s.1, s.2.1, s.2.2.1, s.2.2.2.1, s.2.2.2.2.1, s.2.2.2.2.2.1, s.2.2.2.2.2.2.1, s.2.2.2.2.2.2.2, seen, num, cMat :: args, ()) 0 args [] [] rounds (by simp; omega) (by simp) (rounds_gt (by omega))
  rw [show ([] : List ByteArray).length = 0 from rfl, hk] at key
  obtain ⟨y, key⟩ := key
  simp only [Nat.zero_add, List.nil_append] at key
  have key : numLoop.l0 (ZS, (s.1, s.2.1, s.2.2.1, s.2.2.2.1, s.2.2.2.2.1, s.2.2.2.2.2.1, s.2.2.2.2.2.2.1, s.2.2.2.2.2.2.2, seen, num, cMat :: args, ()), 0, [], .nil, [], args, (args.length : Int), 0, ()) = _ := key
  rw [tr_opt, key, Option.bind_some]
  dsimp only
  rw [tr_yes (b := exEq (Ex.exit 0) (Ex.exit 0)) rfl, tr_no (b := false) rfl, tr_opt, h0, Option.bind_some]
  rw [tr_no (b := ByteArray.toList cMat == ByteArray.toList cMatt) (by kernel_rfl), tr_yes (b := ByteArray.toList cMat == ByteArray.toList cMat) (by kernel_rfl)]
  have hroom : decide ((s.1.length + 1) * 56 ≤ most) = true := decide_eq_true (room (by omega) (by omega))
  simp only [hroom, take_snoc]
  rfl
theorem code_tri (s : ScT) (seen : List (ByteArray × Bool)) (n0 : Int) (w0 : List ByteArray) (L : List (Int × List ByteArray)) (i : Nat) (hi : i < L.length) (hn : L.length ≤ 6001) (num : Int) (args : List ByteArray) (hg : L[i] = (num, cTri :: args)) (a0 a1 a2 a3 a4 a5 a6 a7 a8 a9 : Int) (hk : nums 1 0 args = some [a0, a1, a2, a3, a4, a5, a6, a7, a8, a9]) (hs : s.2.1.length ≤ 6001) :
    (parse_Parse.t0 (ZS, .nil, (s.1, s.2.1, s.2.2.1, s.2.2.2.1, s.2.2.2.2.1, s.2.2.2.2.2.1, s.2.2.2.2.2.2.1, s.2.2.2.2.2.2.2, seen, n0, w0, ()), L, (L.length : Int), (i : Int), ())).run =
      some (.normal, ZS, .nil, (s.1, s.2.1 ++ [((a1, a2, a3), (a4, a5, a6), (a7, a8, a9), a0)], s.2.2.1, s.2.2.2.1, s.2.2.2.2.1, s.2.2.2.2.2.1, s.2.2.2.2.2.2.1, s.2.2.2.2.2.2.2, seen, num, cTri :: args, ()), L, (L.length : Int), ((i + 1 : Nat) : Int), ()) := by
  have ha : args.length = 10 := (nums_len _ _ _ _ hk).symm
  unfold parse_Parse.t0
  dsimp only
  have hW : W ((i : Int) + 1) = ((i + 1 : Nat) : Int) := by rw [W_id (by omega) (by omega)]; omega
  have hL : lget L (i : Int) = some (num, cTri :: args) := by rw [lget_nat L hi, hg]
  have h0 : lget (cTri :: args) 0 = some cTri := rfl
  have ht : parse_takes cTri = some (10, 1, true) := by kernel_rfl
  rw [tr_yes (decide_eq_true (by omega)), tr_opt, hL, Option.bind_some, hW, tr_opt, h0, Option.bind_some, tr_opt, ht, Option.bind_some]
  dsimp only
  rw [tr_no (b := !true) rfl]
  have hlen : (cTri :: args).length = 11 := by simp [ha]
  have hdrop : List.take ((((cTri :: args).length : Nat) : Int).toNat - Int.toNat 1) (List.drop (Int.toNat 1) (cTri :: args)) = args := by
    rw [Int.toNat_natCast, hlen]
    show List.take 10 args = args
    exact List.take_of_length_le (by omega)
  rw [tr_yes (by rw [hlen]; rfl), hdrop, tr_no (by rw [ha]; rfl)]
  simp only [List.take_length]
  have key := num_loop ZS (s.1, s.2.1, s.2.2.1, s.2.2.2.1, s.2.2.2.2.1, s.2.2.2.2.2.1, s.2.2.2.2.2.2.1, s.2.2.2.2.2.2.2, seen, num, cTri :: args, ()) 1 args [] [] rounds (by simp; omega) (by simp) (rounds_gt (by omega))
  rw [show ([] : List ByteArray).length = 0 from rfl, hk] at key
  obtain ⟨y, key⟩ := key
  simp only [Nat.zero_add, List.nil_append] at key
  have key : numLoop.l0 (ZS, (s.1, s.2.1, s.2.2.1, s.2.2.2.1, s.2.2.2.2.1, s.2.2.2.2.2.1, s.2.2.2.2.2.2.1, s.2.2.2.2.2.2.2, seen, num, cTri :: args, ()), 1, [], .nil, [], args, (args.length : Int), 0, ()) = _ := key
  rw [tr_opt, key, Option.bind_some]
  dsimp only
  rw [tr_yes (b := exEq (Ex.exit 0) (Ex.exit 0)) rfl, tr_no (b := false) rfl, tr_opt, h0, Option.bind_some]
  rw [tr_no (b := ByteArray.toList cTri == ByteArray.toList cMatt) (by kernel_rfl), tr_no (b := ByteArray.toList cTri == ByteArray.toList cMat) (by kernel_rfl), tr_yes (b := ByteArray.toList cTri == ByteArray.toList cTri) (by kernel_rfl)]
  have hroom : decide ((s.2.1.length + 1) * 80 ≤ most) = true := decide_eq_true (room (by omega) (by omega))
  simp only [hroom, take_snoc]
  rfl
theorem code_light (s : ScT) (seen : List (ByteArray × Bool)) (n0 : Int) (w0 : List ByteArray) (L : List (Int × List ByteArray)) (i : Nat) (hi : i < L.length) (hn : L.length ≤ 6001) (num : Int) (args : List ByteArray) (hg : L[i] = (num, cLight :: args)) (a0 a1 a2 a3 : Int) (hk : nums 1 0 args = some [a0, a1, a2, a3]) (hs : s.2.2.1.length ≤ 6001) :
    (parse_Parse.t0 (ZS, .nil, (s.1, s.2.1, s.2.2.1, s.2.2.2.1, s.2.2.2.2.1, s.2.2.2.2.2.1, s.2.2.2.2.2.2.1, s.2.2.2.2.2.2.2, seen, n0, w0, ()), L, (L.length : Int), (i : Int), ())).run =
      some (.normal, ZS, .nil, (s.1, s.2.1, s.2.2.1 ++ [(a0, (a1, a2, a3))], s.2.2.2.1, s.2.2.2.2.1, s.2.2.2.2.2.1, s.2.2.2.2.2.2.1, s.2.2.2.2.2.2.2, seen, num, cLight :: args, ()), L, (L.length : Int), ((i + 1 : Nat) : Int), ()) := by
  have ha : args.length = 4 := (nums_len _ _ _ _ hk).symm
  unfold parse_Parse.t0
  dsimp only
  have hW : W ((i : Int) + 1) = ((i + 1 : Nat) : Int) := by rw [W_id (by omega) (by omega)]; omega
  have hL : lget L (i : Int) = some (num, cLight :: args) := by rw [lget_nat L hi, hg]
  have h0 : lget (cLight :: args) 0 = some cLight := rfl
  have ht : parse_takes cLight = some (4, 1, true) := by kernel_rfl
  rw [tr_yes (decide_eq_true (by omega)), tr_opt, hL, Option.bind_some, hW, tr_opt, h0, Option.bind_some, tr_opt, ht, Option.bind_some]
  dsimp only
  rw [tr_no (b := !true) rfl]
  have hlen : (cLight :: args).length = 5 := by simp [ha]
  have hdrop : List.take ((((cLight :: args).length : Nat) : Int).toNat - Int.toNat 1) (List.drop (Int.toNat 1) (cLight :: args)) = args := by
    rw [Int.toNat_natCast, hlen]
    show List.take 4 args = args
    exact List.take_of_length_le (by omega)
  rw [tr_yes (by rw [hlen]; rfl), hdrop, tr_no (by rw [ha]; rfl)]
  simp only [List.take_length]
  have key := num_loop ZS (s.1, s.2.1, s.2.2.1, s.2.2.2.1, s.2.2.2.2.1, s.2.2.2.2.2.1, s.2.2.2.2.2.2.1, s.2.2.2.2.2.2.2, seen, num, cLight :: args, ()) 1 args [] [] rounds (by simp; omega) (by simp) (rounds_gt (by omega))
  rw [show ([] : List ByteArray).length = 0 from rfl, hk] at key
  obtain ⟨y, key⟩ := key
  simp only [Nat.zero_add, List.nil_append] at key
  have key : numLoop.l0 (ZS, (s.1, s.2.1, s.2.2.1, s.2.2.2.1, s.2.2.2.2.1, s.2.2.2.2.2.1, s.2.2.2.2.2.2.1, s.2.2.2.2.2.2.2, seen, num, cLight :: args, ()), 1, [], .nil, [], args, (args.length : Int), 0, ()) = _ := key
  rw [tr_opt, key, Option.bind_some]
  dsimp only
  rw [tr_yes (b := exEq (Ex.exit 0) (Ex.exit 0)) rfl, tr_no (b := false) rfl, tr_opt, h0, Option.bind_some]
  rw [tr_no (b := ByteArray.toList cLight == ByteArray.toList cMatt) (by kernel_rfl), tr_no (b := ByteArray.toList cLight == ByteArray.toList cMat) (by kernel_rfl), tr_no (b := ByteArray.toList cLight == ByteArray.toList cTri) (by kernel_rfl), tr_yes (b := ByteArray.toList cLight == ByteArray.toList cLight) (by kernel_rfl)]
  have hroom : decide ((s.2.2.1.length + 1) * 32 ≤ most) = true := decide_eq_true (room (by omega) (by omega))
  simp only [hroom, take_snoc]
  rfl
theorem code_cell (s : ScT) (seen : List (ByteArray × Bool)) (n0 : Int) (w0 : List ByteArray) (L : List (Int × List ByteArray)) (i : Nat) (hi : i < L.length) (hn : L.length ≤ 6001) (num : Int) (args : List ByteArray) (hg : L[i] = (num, cCell :: args)) (a0 a1 a2 : Int) (hk : nums 0 0 args = some [a0, a1, a2]) (hs : s.2.2.2.2.1.length ≤ 6001) :
    (parse_Parse.t0 (ZS, .nil, (s.1, s.2.1, s.2.2.1, s.2.2.2.1, s.2.2.2.2.1, s.2.2.2.2.2.1, s.2.2.2.2.2.2.1, s.2.2.2.2.2.2.2, seen, n0, w0, ()), L, (L.length : Int), (i : Int), ())).run =
      some (.normal, ZS, .nil, (s.1, s.2.1, s.2.2.1, s.2.2.2.1, s.2.2.2.2.1 ++ [(a0, a1, a2)], s.2.2.2.2.2.1, s.2.2.2.2.2.2.1, s.2.2.2.2.2.2.2, seen, num, cCell :: args, ()), L, (L.length : Int), ((i + 1 : Nat) : Int), ()) := by
  have ha : args.length = 3 := (nums_len _ _ _ _ hk).symm
  unfold parse_Parse.t0
  dsimp only
  have hW : W ((i : Int) + 1) = ((i + 1 : Nat) : Int) := by rw [W_id (by omega) (by omega)]; omega
  have hL : lget L (i : Int) = some (num, cCell :: args) := by rw [lget_nat L hi, hg]
  have h0 : lget (cCell :: args) 0 = some cCell := rfl
  have ht : parse_takes cCell = some (3, 0, true) := by kernel_rfl
  rw [tr_yes (decide_eq_true (by omega)), tr_opt, hL, Option.bind_some, hW, tr_opt, h0, Option.bind_some, tr_opt, ht, Option.bind_some]
  dsimp only
  rw [tr_no (b := !true) rfl]
  have hlen : (cCell :: args).length = 4 := by simp [ha]
  have hdrop : List.take ((((cCell :: args).length : Nat) : Int).toNat - Int.toNat 1) (List.drop (Int.toNat 1) (cCell :: args)) = args := by
    rw [Int.toNat_natCast, hlen]
    show List.take 3 args = args
    exact List.take_of_length_le (by omega)
  rw [tr_yes (by rw [hlen]; rfl), hdrop, tr_no (by rw [ha]; rfl)]
  simp only [List.take_length]
  have key := num_loop ZS (s.1, s.2.1, s.2.2.1, s.2.2.2.1, s.2.2.2.2.1, s.2.2.2.2.2.1, s.2.2.2.2.2.2.1, s.2.2.2.2.2.2.2, seen, num, cCell :: args, ()) 0 args [] [] rounds (by simp; omega) (by simp) (rounds_gt (by omega))
  rw [show ([] : List ByteArray).length = 0 from rfl, hk] at key
  obtain ⟨y, key⟩ := key
  simp only [Nat.zero_add, List.nil_append] at key
  have key : numLoop.l0 (ZS, (s.1, s.2.1, s.2.2.1, s.2.2.2.1, s.2.2.2.2.1, s.2.2.2.2.2.1, s.2.2.2.2.2.2.1, s.2.2.2.2.2.2.2, seen, num, cCell :: args, ()), 0, [], .nil, [], args, (args.length : Int), 0, ()) = _ := key
  rw [tr_opt, key, Option.bind_some]
  dsimp only
  rw [tr_yes (b := exEq (Ex.exit 0) (Ex.exit 0)) rfl, tr_no (b := false) rfl, tr_opt, h0, Option.bind_some]
  rw [tr_no (b := ByteArray.toList cCell == ByteArray.toList cMatt) (by kernel_rfl), tr_no (b := ByteArray.toList cCell == ByteArray.toList cMat) (by kernel_rfl), tr_no (b := ByteArray.toList cCell == ByteArray.toList cTri) (by kernel_rfl), tr_no (b := ByteArray.toList cCell == ByteArray.toList cLight) (by kernel_rfl), tr_yes (b := ByteArray.toList cCell == ByteArray.toList cCell) (by kernel_rfl)]
  have hroom : decide ((s.2.2.2.2.1.length + 1) * 24 ≤ most) = true := decide_eq_true (room (by omega) (by omega))
  simp only [hroom, take_snoc]
  rfl
theorem code_sky (s : ScT) (seen : List (ByteArray × Bool)) (n0 : Int) (w0 : List ByteArray) (L : List (Int × List ByteArray)) (i : Nat) (hi : i < L.length) (hn : L.length ≤ 6001) (num : Int) (args : List ByteArray) (hg : L[i] = (num, cSky :: args)) (a0 : Int) (hk : nums 1 0 args = some [a0]) (hse : (mget seen cSky).getD false = false) :
    (parse_Parse.t0 (ZS, .nil, (s.1, s.2.1, s.2.2.1, s.2.2.2.1, s.2.2.2.2.1, s.2.2.2.2.2.1, s.2.2.2.2.2.2.1, s.2.2.2.2.2.2.2, seen, n0, w0, ()), L, (L.length : Int), (i : Int), ())).run =
      some (.normal, ZS, .nil, (s.1, s.2.1, s.2.2.1, a0, s.2.2.2.2.1, s.2.2.2.2.2.1, s.2.2.2.2.2.2.1, s.2.2.2.2.2.2.2, mset seen cSky true, num, cSky :: args, ()), L, (L.length : Int), ((i + 1 : Nat) : Int), ()) := by
  have ha : args.length = 1 := (nums_len _ _ _ _ hk).symm
  unfold parse_Parse.t0
  dsimp only
  have hW : W ((i : Int) + 1) = ((i + 1 : Nat) : Int) := by rw [W_id (by omega) (by omega)]; omega
  have hL : lget L (i : Int) = some (num, cSky :: args) := by rw [lget_nat L hi, hg]
  have h0 : lget (cSky :: args) 0 = some cSky := rfl
  have ht : parse_takes cSky = some (1, 1, true) := by kernel_rfl
  rw [tr_yes (decide_eq_true (by omega)), tr_opt, hL, Option.bind_some, hW, tr_opt, h0, Option.bind_some, tr_opt, ht, Option.bind_some]
  dsimp only
  rw [tr_no (b := !true) rfl]
  have hlen : (cSky :: args).length = 2 := by simp [ha]
  have hdrop : List.take ((((cSky :: args).length : Nat) : Int).toNat - Int.toNat 1) (List.drop (Int.toNat 1) (cSky :: args)) = args := by
    rw [Int.toNat_natCast, hlen]
    show List.take 1 args = args
    exact List.take_of_length_le (by omega)
  rw [tr_yes (by rw [hlen]; rfl), hdrop, tr_no (by rw [ha]; rfl)]
  simp only [List.take_length]
  have key := num_loop ZS (s.1, s.2.1, s.2.2.1, s.2.2.2.1, s.2.2.2.2.1, s.2.2.2.2.2.1, s.2.2.2.2.2.2.1, s.2.2.2.2.2.2.2, seen, num, cSky :: args, ()) 1 args [] [] rounds (by simp; omega) (by simp) (rounds_gt (by omega))
  rw [show ([] : List ByteArray).length = 0 from rfl, hk] at key
  obtain ⟨y, key⟩ := key
  simp only [Nat.zero_add, List.nil_append] at key
  have key : numLoop.l0 (ZS, (s.1, s.2.1, s.2.2.1, s.2.2.2.1, s.2.2.2.2.1, s.2.2.2.2.2.1, s.2.2.2.2.2.2.1, s.2.2.2.2.2.2.2, seen, num, cSky :: args, ()), 1, [], .nil, [], args, (args.length : Int), 0, ()) = _ := key
  rw [tr_opt, key, Option.bind_some]
  dsimp only
  rw [tr_yes (b := exEq (Ex.exit 0) (Ex.exit 0)) rfl, tr_no (b := false) rfl, tr_opt, h0, Option.bind_some]
  rw [tr_no (b := ByteArray.toList cSky == ByteArray.toList cMatt) (by kernel_rfl), tr_no (b := ByteArray.toList cSky == ByteArray.toList cMat) (by kernel_rfl), tr_no (b := ByteArray.toList cSky == ByteArray.toList cTri) (by kernel_rfl), tr_no (b := ByteArray.toList cSky == ByteArray.toList cLight) (by kernel_rfl), tr_no (b := ByteArray.toList cSky == ByteArray.toList cCell) (by kernel_rfl), tr_yes (b := ByteArray.toList cSky == ByteArray.toList cSky) (by kernel_rfl)]
  simp only [hse]
  rfl
theorem code_filter (s : ScT) (seen : List (ByteArray × Bool)) (n0 : Int) (w0 : List ByteArray) (L : List (Int × List ByteArray)) (i : Nat) (hi : i < L.length) (hn : L.length ≤ 6001) (num : Int) (args : List ByteArray) (hg : L[i] = (num, cFil :: args)) (a0 a1 : Int) (hk : nums 1 0 args = some [a0, a1]) (hse : (mget seen cFil).getD false = false) :
    (parse_Parse.t0 (ZS, .nil, (s.1, s.2.1, s.2.2.1, s.2.2.2.1, s.2.2.2.2.1, s.2.2.2.2.2.1, s.2.2.2.2.2.2.1, s.2.2.2.2.2.2.2, seen, n0, w0, ()), L, (L.length : Int), (i : Int), ())).run =
      some (.normal, ZS, .nil, (s.1, s.2.1, s.2.2.1, s.2.2.2.1, s.2.2.2.2.1, s.2.2.2.2.2.1, a0, a1, mset seen cFil true, num, cFil :: args, ()), L, (L.length : Int), ((i + 1 : Nat) : Int), ()) := by
  have ha : args.length = 2 := (nums_len _ _ _ _ hk).symm
  unfold parse_Parse.t0
  dsimp only
  have hW : W ((i : Int) + 1) = ((i + 1 : Nat) : Int) := by rw [W_id (by omega) (by omega)]; omega
  have hL : lget L (i : Int) = some (num, cFil :: args) := by rw [lget_nat L hi, hg]
  have h0 : lget (cFil :: args) 0 = some cFil := rfl
  have ht : parse_takes cFil = some (2, 1, true) := by kernel_rfl
  rw [tr_yes (decide_eq_true (by omega)), tr_opt, hL, Option.bind_some, hW, tr_opt, h0, Option.bind_some, tr_opt, ht, Option.bind_some]
  dsimp only
  rw [tr_no (b := !true) rfl]
  have hlen : (cFil :: args).length = 3 := by simp [ha]
  have hdrop : List.take ((((cFil :: args).length : Nat) : Int).toNat - Int.toNat 1) (List.drop (Int.toNat 1) (cFil :: args)) = args := by
    rw [Int.toNat_natCast, hlen]
    show List.take 2 args = args
    exact List.take_of_length_le (by omega)
  rw [tr_yes (by rw [hlen]; rfl), hdrop, tr_no (by rw [ha]; rfl)]
  simp only [List.take_length]
  have key := num_loop ZS (s.1, s.2.1, s.2.2.1, s.2.2.2.1, s.2.2.2.2.1, s.2.2.2.2.2.1, s.2.2.2.2.2.2.1, s.2.2.2.2.2.2.2, seen, num, cFil :: args, ()) 1 args [] [] rounds (by simp; omega) (by simp) (rounds_gt (by omega))
  rw [show ([] : List ByteArray).length = 0 from rfl, hk] at key
  obtain ⟨y, key⟩ := key
  simp only [Nat.zero_add, List.nil_append] at key
  have key : numLoop.l0 (ZS, (s.1, s.2.1, s.2.2.1, s.2.2.2.1, s.2.2.2.2.1, s.2.2.2.2.2.1, s.2.2.2.2.2.2.1, s.2.2.2.2.2.2.2, seen, num, cFil :: args, ()), 1, [], .nil, [], args, (args.length : Int), 0, ()) = _ := key
  rw [tr_opt, key, Option.bind_some]
  dsimp only
  rw [tr_yes (b := exEq (Ex.exit 0) (Ex.exit 0)) rfl, tr_no (b := false) rfl, tr_opt, h0, Option.bind_some]
  rw [tr_no (b := ByteArray.toList cFil == ByteArray.toList cMatt) (by kernel_rfl), tr_no (b := ByteArray.toList cFil == ByteArray.toList cMat) (by kernel_rfl), tr_no (b := ByteArray.toList cFil == ByteArray.toList cTri) (by kernel_rfl), tr_no (b := ByteArray.toList cFil == ByteArray.toList cLight) (by kernel_rfl), tr_no (b := ByteArray.toList cFil == ByteArray.toList cCell) (by kernel_rfl), tr_no (b := ByteArray.toList cFil == ByteArray.toList cSky) (by kernel_rfl), tr_yes (b := ByteArray.toList cFil == ByteArray.toList cFil) (by kernel_rfl)]
  simp only [hse]
  rfl
theorem code_camera (s : ScT) (seen : List (ByteArray × Bool)) (n0 : Int) (w0 : List ByteArray) (L : List (Int × List ByteArray)) (i : Nat) (hi : i < L.length) (hn : L.length ≤ 6001) (num : Int) (args : List ByteArray) (hg : L[i] = (num, cCam :: args)) (a0 a1 a2 a3 a4 a5 a6 a7 a8 a9 a10 a11 : Int) (hk : nums 0 0 args = some [a0, a1, a2, a3, a4, a5, a6, a7, a8, a9, a10, a11]) (hse : (mget seen cCam).getD false = false) :
    (parse_Parse.t0 (ZS, .nil, (s.1, s.2.1, s.2.2.1, s.2.2.2.1, s.2.2.2.2.1, s.2.2.2.2.2.1, s.2.2.2.2.2.2.1, s.2.2.2.2.2.2.2, seen, n0, w0, ()), L, (L.length : Int), (i : Int), ())).run =
      some (.normal, ZS, .nil, (s.1, s.2.1, s.2.2.1, s.2.2.2.1, s.2.2.2.2.1, ((a0, a1, a2), (a3, a4, a5), (a6, a7, a8), a9, a10, a11), s.2.2.2.2.2.2.1, s.2.2.2.2.2.2.2, mset seen cCam true, num, cCam :: args, ()), L, (L.length : Int), ((i + 1 : Nat) : Int), ()) := by
  have ha : args.length = 12 := (nums_len _ _ _ _ hk).symm
  unfold parse_Parse.t0
  dsimp only
  have hW : W ((i : Int) + 1) = ((i + 1 : Nat) : Int) := by rw [W_id (by omega) (by omega)]; omega
  have hL : lget L (i : Int) = some (num, cCam :: args) := by rw [lget_nat L hi, hg]
  have h0 : lget (cCam :: args) 0 = some cCam := rfl
  have ht : parse_takes cCam = some (12, 0, true) := by kernel_rfl
  rw [tr_yes (decide_eq_true (by omega)), tr_opt, hL, Option.bind_some, hW, tr_opt, h0, Option.bind_some, tr_opt, ht, Option.bind_some]
  dsimp only
  rw [tr_no (b := !true) rfl]
  have hlen : (cCam :: args).length = 13 := by simp [ha]
  have hdrop : List.take ((((cCam :: args).length : Nat) : Int).toNat - Int.toNat 1) (List.drop (Int.toNat 1) (cCam :: args)) = args := by
    rw [Int.toNat_natCast, hlen]
    show List.take 12 args = args
    exact List.take_of_length_le (by omega)
  rw [tr_yes (by rw [hlen]; rfl), hdrop, tr_no (by rw [ha]; rfl)]
  simp only [List.take_length]
  have key := num_loop ZS (s.1, s.2.1, s.2.2.1, s.2.2.2.1, s.2.2.2.2.1, s.2.2.2.2.2.1, s.2.2.2.2.2.2.1, s.2.2.2.2.2.2.2, seen, num, cCam :: args, ()) 0 args [] [] rounds (by simp; omega) (by simp) (rounds_gt (by omega))
  rw [show ([] : List ByteArray).length = 0 from rfl, hk] at key
  obtain ⟨y, key⟩ := key
  simp only [Nat.zero_add, List.nil_append] at key
  have key : numLoop.l0 (ZS, (s.1, s.2.1, s.2.2.1, s.2.2.2.1, s.2.2.2.2.1, s.2.2.2.2.2.1, s.2.2.2.2.2.2.1, s.2.2.2.2.2.2.2, seen, num, cCam :: args, ()), 0, [], .nil, [], args, (args.length : Int), 0, ()) = _ := key
  rw [tr_opt, key, Option.bind_some]
  dsimp only
  rw [tr_yes (b := exEq (Ex.exit 0) (Ex.exit 0)) rfl, tr_no (b := false) rfl, tr_opt, h0, Option.bind_some]
  rw [tr_no (b := ByteArray.toList cCam == ByteArray.toList cMatt) (by kernel_rfl), tr_no (b := ByteArray.toList cCam == ByteArray.toList cMat) (by kernel_rfl), tr_no (b := ByteArray.toList cCam == ByteArray.toList cTri) (by kernel_rfl), tr_no (b := ByteArray.toList cCam == ByteArray.toList cLight) (by kernel_rfl), tr_no (b := ByteArray.toList cCam == ByteArray.toList cCell) (by kernel_rfl), tr_no (b := ByteArray.toList cCam == ByteArray.toList cSky) (by kernel_rfl), tr_no (b := ByteArray.toList cCam == ByteArray.toList cFil) (by kernel_rfl), tr_no (b := ByteArray.toList cCam == ByteArray.toList cPin) (by kernel_rfl)]
  simp only [hse]
  rfl
end Go.Proofs.Pen

namespace Go.Proofs.Pen
open Go Go.Proofs

end Go.Proofs.Pen

namespace Go.Proofs.Pen
open Go Go.Proofs

section
variable (s : ScT) (seen : List (ByteArray × Bool)) (n0 : Int) (w0 : List ByteArray) (L : List (Int × List ByteArray)) (i : Nat) (hi : i < L.length) (hn : L.length ≤ 6001) (num : Int) (w : ByteArray) (args : List ByteArray) (hg : L[i] = (num, w :: args))
include hi hg

end

section
variable (s : ScT) (cam sky fil : Bool) (Ls : List ByteArray) (i : Nat) (hi : i < Ls.length) (hn : Ls.length ≤ 6001) (w : ByteArray) (args : List ByteArray) (hl : args.length ≤ 6000) (hg : ref23_Words Ls[i] = some (w :: args))
include hi hn hl hg

end
end Go.Proofs.Pen

namespace Go.Proofs.Pen
open Go Go.Proofs

theorem mget_set : ∀ (l : List (ByteArray × Bool)) (k : ByteArray) (v : Bool) (k' : ByteArray), mget (mset l k v) k' = if k = k' then some v else mget l k'
  | [], k, v, k' => by
    unfold mset mget mget
    by_cases h : k = k'
    · subst h; rw [if_pos ((ba_beq _ _).2 rfl), if_pos rfl]
    · rw [if_neg (fun e => h ((ba_beq _ _).1 e)), if_neg h]
  | x :: l, k, v, k' => by
    have ih := mget_set l k v k'
    unfold mset
    by_cases hx : x.1 = k
    · rw [if_pos ((ba_beq _ _).2 hx)]
      unfold mget
      by_cases h : k = k'
      · subst h; rw [if_pos ((ba_beq _ _).2 rfl), if_pos rfl]
      · rw [if_neg (fun e => h ((ba_beq _ _).1 e)), if_neg h]
        rw [if_neg (fun e => h (hx.symm.trans ((ba_beq _ _).1 e)))]
    · rw [if_neg (fun e => hx ((ba_beq _ _).1 e))]
      unfold mget
      by_cases h2 : x.1 = k'
      · rw [if_pos ((ba_beq _ _).2 h2), if_pos ((ba_beq _ _).2 h2), if_neg (fun e => hx (h2.trans e.symm))]
      · rw [if_neg (fun e => h2 ((ba_beq _ _).1 e)), if_neg (fun e => h2 ((ba_beq _ _).1 e))]
        exact ih
def flagM (seen : List (ByteArray × Bool)) (c : ByteArray) : Bool := (mget seen c).getD false
theorem flag_other (seen : List (ByteArray × Bool)) {c d : ByteArray} (h : c ≠ d) : flagM (mset seen c true) d = flagM seen d := by
  unfold flagM; rw [mget_set, if_neg h]

def known : List ByteArray := [cMat, cMatt, cTri, cLight, cSky, cCell, cCam, cPin, cFil]
def more1 (n : Nat) : Nat := if 3 ≤ n then 1 else 0
structure Grow (s s' : ScT) (n : Nat) : Prop where
  a : s'.1.length ≤ s.1.length + more1 n
  b : s'.2.1.length ≤ s.2.1.length + more1 n
  c : s'.2.2.1.length ≤ s.2.2.1.length + more1 n
  d : s'.2.2.2.2.1.length ≤ s.2.2.2.2.1.length + more1 n

end Go.Proofs.Pen

namespace Go.Proofs.Pen
open Go Go.Proofs

def Lim (s : ScT) (t : Nat) : Prop := 8 * s.1.length + t ≤ 7200 ∧ 8 * s.2.1.length + t ≤ 7200 ∧ 8 * s.2.2.1.length + t ≤ 7200 ∧ 8 * s.2.2.2.2.1.length + t ≤ 7200
theorem Lim.step {s s' : ScT} {n k t : Nat} (h : Lim s (k + 1 + t)) (g : Grow s s' n) (hk : 2 * (n + 1) ≤ k + 1) : Lim s' t := by
  obtain ⟨a, b, c, d⟩ := h
  obtain ⟨a', b', c', d'⟩ := g
  have hm : 8 * more1 n ≤ k + 1 := by unfold more1; split <;> omega
  exact ⟨by omega, by omega, by omega, by omega⟩

def S0 : ScT := ([], [], [], 0, [], ((0, 0, 0), (0, 0, 0), (0, 0, 0), 0, 0, 0), 1, 512)

end Go.Proofs.Pen

namespace Go.Proofs.Pen
open Go Go.Proofs
noncomputable def law22_Light.t (x : ((List ((Int × Int × Int) × (Int × Int × Int) × Int)) × (List ((Int × Int × Int) × (Int × Int × Int) × (Int × Int × Int) × Int)) × (List (Int × Int × Int × Int)) × Int × (List (Int × Int × Int)) × ((Int × Int × Int) × (Int × Int × Int) × (Int × Int × Int) × Int × Int × Int) × Int × Int)) : T (Bool) := T.ret (decide ((↑(List.length x.1) : Int) ≤ (40 : Int)) && decide ((↑(List.length x.2.1) : Int) ≤ (60 : Int)) && decide ((↑(List.length x.2.2.1) : Int) ≤ (60 : Int)) && decide ((↑(List.length x.2.2.2.2.1) : Int) ≤ (200 : Int)))
noncomputable def law22_Light.q : List AV → T AV := entry [TScn] (outR [.bool]) law22_Light.t
theorem law22_Light.ok : FnOK Tryz.prog 7 law22_Light.q :=
  entry_in (ps := [TScn]) (rs := [.bool]) (F := ({ quiet := Xs, deep := noDeep } : Fns)) (D := D0) (S := tabS []) (t := law22_Light.t) mixed Xok (deep_none _) Tryz.func7 (by kernel_rfl) (sok_fn trivial) (by kernel_rfl) (fun x => by kernel_rfl)
end Go.Proofs.Pen

namespace Go.Proofs.Pen
open Go Go.Proofs
noncomputable def ref24_three.t (x : (Int × Int × Int)) : T (ByteArray) := T.opt (txt1 x.1) fun y => T.ite (decide ((↑((ByteArray.mk #[32]).size + y.size) : Int) > IntKind.i64.max)) T.fail (T.ite (decide ((↑(((ByteArray.mk #[32]) ++ y).size + (ByteArray.mk #[32]).size) : Int) > IntKind.i64.max)) T.fail (T.opt (txt1 x.2.1) fun y_1 => T.ite (decide ((↑(((ByteArray.mk #[32]) ++ y ++ (ByteArray.mk #[32])).size + y_1.size) : Int) > IntKind.i64.max)) T.fail (T.ite (decide ((↑(((ByteArray.mk #[32]) ++ y ++ (ByteArray.mk #[32]) ++ y_1).size + (ByteArray.mk #[32]).size) : Int) > IntKind.i64.max)) T.fail (T.opt (txt1 x.2.2) fun y_2 => T.ite (decide ((↑(((ByteArray.mk #[32]) ++ y ++ (ByteArray.mk #[32]) ++ y_1 ++ (ByteArray.mk #[32])).size + y_2.size) : Int) > IntKind.i64.max)) T.fail (T.ret ((ByteArray.mk #[32]) ++ y ++ (ByteArray.mk #[32]) ++ y_1 ++ (ByteArray.mk #[32]) ++ y_2))))))
noncomputable def ref24_three (x : (Int × Int × Int)) : Option (ByteArray) := (ref24_three.t x).run
noncomputable def ref24_three.q : List AV → T AV := entry [TP] (outR [.str]) fun x => .opt (ref24_three x) .ret
theorem ref24_three.ok : FnOK Tryz.prog 27 ref24_three.q :=
  entry_call (ps := [TP]) (rs := [.str]) (F := ({ quiet := (ext (ext Xs 28 txt0.q) 28 txt1.q), deep := noDeep } : Fns)) (D := D0) (S := tabS []) (t := ref24_three.t) mixed (quiet_ext (quiet_ext Xok txt0.ok) txt1.ok) (deep_none _) Tryz.func27 (by kernel_rfl) (sok_fn trivial) (by kernel_rfl) (fun x => by kernel_rfl)
end Go.Proofs.Pen

namespace Go.Proofs.Pen
open Go Go.Proofs
def ref24_Print.L0 : List (Nat × Lay) := [(1, .box TScn), (3, .val .str), (4, .val TI)]
noncomputable def ref24_Print.t0 (x : ((List ((Int × Int × Int) × (Int × Int × Int) × Int)) × (List ((Int × Int × Int) × (Int × Int × Int) × (Int × Int × Int) × Int)) × (List (Int × Int × Int × Int)) × Int × (List (Int × Int × Int)) × ((Int × Int × Int) × (Int × Int × Int) × (Int × Int × Int) × Int × Int × Int) × Int × Int) × ByteArray × Int × Unit) : T (Ex × ((List ((Int × Int × Int) × (Int × Int × Int) × Int)) × (List ((Int × Int × Int) × (Int × Int × Int) × (Int × Int × Int) × Int)) × (List (Int × Int × Int × Int)) × Int × (List (Int × Int × Int)) × ((Int × Int × Int) × (Int × Int × Int) × (Int × Int × Int) × Int × Int × Int) × Int × Int) × ByteArray × Int × Unit) := T.ite (decide (x.2.2.1 < (↑(List.length x.1.1) : Int))) (T.ite (decide ((↑(ByteArray.size x.2.1 + (ByteArray.mk #[109, 97, 116]).size) : Int) > IntKind.i64.max)) T.fail (T.opt (lget x.1.1 x.2.2.1) fun y => T.opt (ref24_three y.1) fun y => T.ite (decide ((↑((x.2.1 ++ (ByteArray.mk #[109, 97, 116])).size + y.size) : Int) > IntKind.i64.max)) T.fail (T.opt (lget x.1.1 x.2.2.1) fun y_1 => T.opt (ref24_three y_1.snd.fst) fun y_2 => T.ite (decide ((↑((x.2.1 ++ (ByteArray.mk #[109, 97, 116]) ++ y).size + y_2.size) : Int) > IntKind.i64.max)) T.fail (T.ite (decide ((↑((x.2.1 ++ (ByteArray.mk #[109, 97, 116]) ++ y ++ y_2).size + (ByteArray.mk #[32]).size) : Int) > IntKind.i64.max)) T.fail (T.opt (lget x.1.1 x.2.2.1) fun y_3 => T.opt (txt1 y_3.snd.snd) fun y_4 => T.ite (decide ((↑((x.2.1 ++ (ByteArray.mk #[109, 97, 116]) ++ y ++ y_2 ++ (ByteArray.mk #[32])).size + y_4.size) : Int) > IntKind.i64.max)) T.fail (T.ite (decide ((↑((x.2.1 ++ (ByteArray.mk #[109, 97, 116]) ++ y ++ y_2 ++ (ByteArray.mk #[32]) ++ y_4).size + (ByteArray.mk #[10]).size) : Int) > IntKind.i64.max)) T.fail (T.ret (Ex.normal, x.1, x.2.1 ++ (ByteArray.mk #[109, 97, 116]) ++ y ++ y_2 ++ (ByteArray.mk #[32]) ++ y_4 ++ (ByteArray.mk #[10]), W (x.2.2.1 + (1 : Int)), ())))))))) (T.ret (Ex.exit (0 : Nat), x.1, x.2.1, x.2.2.1, ()))
noncomputable def ref24_Print.l0 (x : ((List ((Int × Int × Int) × (Int × Int × Int) × Int)) × (List ((Int × Int × Int) × (Int × Int × Int) × (Int × Int × Int) × Int)) × (List (Int × Int × Int × Int)) × Int × (List (Int × Int × Int)) × ((Int × Int × Int) × (Int × Int × Int) × (Int × Int × Int) × Int × Int × Int) × Int × Int) × ByteArray × Int × Unit) : Option (Ex × ((List ((Int × Int × Int) × (Int × Int × Int) × Int)) × (List ((Int × Int × Int) × (Int × Int × Int) × (Int × Int × Int) × Int)) × (List (Int × Int × Int × Int)) × Int × (List (Int × Int × Int)) × ((Int × Int × Int) × (Int × Int × Int) × (Int × Int × Int) × Int × Int × Int) × Int × Int) × ByteArray × Int × Unit) := (iterT ref24_Print.t0 rounds x).run
theorem ref24_Print.k0 : bodies 0 (lp Tryz.f11 []) = [.loop (loopIn 0 (lp Tryz.f11 []))] ∧ WP Tryz.prog 0 (.block 0 (.loop (loopIn 0 (lp Tryz.f11 [])))) (loopS ref24_Print.L0 173 0 [.exit 0] ref24_Print.l0) :=
  loop_tree (L := ref24_Print.L0) (F := ({ quiet := (ext (ext (ext (ext (ext (ext (ext (ext (ext (ext (ext (ext (ext Xs 27 ref24_three.q) 28 txt0.q) 28 txt1.q) 29 dig0.q) 29 dig1.q) 29 dig2.q) 29 dig3.q) 29 dig4.q) 29 dig5.q) 29 dig6.q) 29 dig7.q) 29 dig8.q) 29 dig9.q), deep := noDeep } : Fns)) (D := D0) (tab := []) (t := ref24_Print.t0) mixed (quiet_ext (quiet_ext (quiet_ext (quiet_ext (quiet_ext (quiet_ext (quiet_ext (quiet_ext (quiet_ext (quiet_ext (quiet_ext (quiet_ext (quiet_ext Xok ref24_three.ok) txt0.ok) txt1.ok) dig0.ok) dig1.ok) dig2.ok) dig3.ok) dig4.ok) dig5.ok) dig6.ok) dig7.ok) dig8.ok) dig9.ok) (deep_none _) (fun _ => rfl) (by kernel_rfl) (by kernel_rfl) trivial (fun x => by kernel_rfl)
def ref24_Print.L2 : List (Nat × Lay) := [(1, .box TScn), (3, .val .str), (5, .val TI)]
noncomputable def ref24_Print.t2 (x : ((List ((Int × Int × Int) × (Int × Int × Int) × Int)) × (List ((Int × Int × Int) × (Int × Int × Int) × (Int × Int × Int) × Int)) × (List (Int × Int × Int × Int)) × Int × (List (Int × Int × Int)) × ((Int × Int × Int) × (Int × Int × Int) × (Int × Int × Int) × Int × Int × Int) × Int × Int) × ByteArray × Int × Unit) : T (Ex × ((List ((Int × Int × Int) × (Int × Int × Int) × Int)) × (List ((Int × Int × Int) × (Int × Int × Int) × (Int × Int × Int) × Int)) × (List (Int × Int × Int × Int)) × Int × (List (Int × Int × Int)) × ((Int × Int × Int) × (Int × Int × Int) × (Int × Int × Int) × Int × Int × Int) × Int × Int) × ByteArray × Int × Unit) := T.ite (decide (x.2.2.1 < (↑(List.length x.1.2.1) : Int))) (T.opt (lget x.1.2.1 x.2.2.1) fun y => T.ite (decide ((↑(ByteArray.size x.2.1 + (ByteArray.mk #[116, 114, 105, 32]).size) : Int) > IntKind.i64.max)) T.fail (T.opt (dig9 y.2.2.2) fun y_1 => T.ite (decide ((↑((x.2.1 ++ (ByteArray.mk #[116, 114, 105, 32])).size + y_1.size) : Int) > IntKind.i64.max)) T.fail (T.opt (ref24_three y.1) fun y_2 => T.ite (decide ((↑((x.2.1 ++ (ByteArray.mk #[116, 114, 105, 32]) ++ y_1).size + y_2.size) : Int) > IntKind.i64.max)) T.fail (T.opt (ref24_three y.2.1) fun y_3 => T.ite (decide ((↑((x.2.1 ++ (ByteArray.mk #[116, 114, 105, 32]) ++ y_1 ++ y_2).size + y_3.size) : Int) > IntKind.i64.max)) T.fail (T.opt (ref24_three y.2.2.1) fun y => T.ite (decide ((↑((x.2.1 ++ (ByteArray.mk #[116, 114, 105, 32]) ++ y_1 ++ y_2 ++ y_3).size + y.size) : Int) > IntKind.i64.max)) T.fail (T.ite (decide ((↑((x.2.1 ++ (ByteArray.mk #[116, 114, 105, 32]) ++ y_1 ++ y_2 ++ y_3 ++ y).size + (ByteArray.mk #[10]).size) : Int) > IntKind.i64.max)) T.fail (T.ret (Ex.normal, x.1, x.2.1 ++ (ByteArray.mk #[116, 114, 105, 32]) ++ y_1 ++ y_2 ++ y_3 ++ y ++ (ByteArray.mk #[10]), W (x.2.2.1 + (1 : Int)), ())))))))) (T.ret (Ex.exit (2 : Nat), x.1, x.2.1, x.2.2.1, ()))
noncomputable def ref24_Print.l2 (x : ((List ((Int × Int × Int) × (Int × Int × Int) × Int)) × (List ((Int × Int × Int) × (Int × Int × Int) × (Int × Int × Int) × Int)) × (List (Int × Int × Int × Int)) × Int × (List (Int × Int × Int)) × ((Int × Int × Int) × (Int × Int × Int) × (Int × Int × Int) × Int × Int × Int) × Int × Int) × ByteArray × Int × Unit) : Option (Ex × ((List ((Int × Int × Int) × (Int × Int × Int) × Int)) × (List ((Int × Int × Int) × (Int × Int × Int) × (Int × Int × Int) × Int)) × (List (Int × Int × Int × Int)) × Int × (List (Int × Int × Int)) × ((Int × Int × Int) × (Int × Int × Int) × (Int × Int × Int) × Int × Int × Int) × Int × Int) × ByteArray × Int × Unit) := (iterT ref24_Print.t2 rounds x).run
theorem ref24_Print.k2 : bodies 2 (lp Tryz.f11 []) = [.loop (loopIn 2 (lp Tryz.f11 []))] ∧ WP Tryz.prog 0 (.block 2 (.loop (loopIn 2 (lp Tryz.f11 [])))) (loopS ref24_Print.L2 173 2 [.exit 2] ref24_Print.l2) :=
  loop_tree (L := ref24_Print.L2) (F := ({ quiet := (ext (ext (ext (ext (ext (ext (ext (ext (ext (ext (ext (ext (ext Xs 27 ref24_three.q) 28 txt0.q) 28 txt1.q) 29 dig0.q) 29 dig1.q) 29 dig2.q) 29 dig3.q) 29 dig4.q) 29 dig5.q) 29 dig6.q) 29 dig7.q) 29 dig8.q) 29 dig9.q), deep := noDeep } : Fns)) (D := D0) (tab := []) (t := ref24_Print.t2) mixed (quiet_ext (quiet_ext (quiet_ext (quiet_ext (quiet_ext (quiet_ext (quiet_ext (quiet_ext (quiet_ext (quiet_ext (quiet_ext (quiet_ext (quiet_ext Xok ref24_three.ok) txt0.ok) txt1.ok) dig0.ok) dig1.ok) dig2.ok) dig3.ok) dig4.ok) dig5.ok) dig6.ok) dig7.ok) dig8.ok) dig9.ok) (deep_none _) (fun _ => rfl) (by kernel_rfl) (by kernel_rfl) trivial (fun x => by kernel_rfl)
def ref24_Print.L4 : List (Nat × Lay) := [(1, .box TScn), (3, .val .str), (7, .val TI)]
noncomputable def ref24_Print.t4 (x : ((List ((Int × Int × Int) × (Int × Int × Int) × Int)) × (List ((Int × Int × Int) × (Int × Int × Int) × (Int × Int × Int) × Int)) × (List (Int × Int × Int × Int)) × Int × (List (Int × Int × Int)) × ((Int × Int × Int) × (Int × Int × Int) × (Int × Int × Int) × Int × Int × Int) × Int × Int) × ByteArray × Int × Unit) : T (Ex × ((List ((Int × Int × Int) × (Int × Int × Int) × Int)) × (List ((Int × Int × Int) × (Int × Int × Int) × (Int × Int × Int) × Int)) × (List (Int × Int × Int × Int)) × Int × (List (Int × Int × Int)) × ((Int × Int × Int) × (Int × Int × Int) × (Int × Int × Int) × Int × Int × Int) × Int × Int) × ByteArray × Int × Unit) := T.ite (decide (x.2.2.1 < (↑(List.length x.1.2.2.1) : Int))) (T.ite (decide ((↑(ByteArray.size x.2.1 + (ByteArray.mk #[108, 105, 103, 104, 116, 32]).size) : Int) > IntKind.i64.max)) T.fail (T.opt (lget x.1.2.2.1 x.2.2.1) fun y => T.opt (dig9 y.1) fun y => T.ite (decide ((↑((x.2.1 ++ (ByteArray.mk #[108, 105, 103, 104, 116, 32])).size + y.size) : Int) > IntKind.i64.max)) T.fail (T.opt (lget x.1.2.2.1 x.2.2.1) fun y_1 => T.opt (ref24_three y_1.snd) fun y_2 => T.ite (decide ((↑((x.2.1 ++ (ByteArray.mk #[108, 105, 103, 104, 116, 32]) ++ y).size + y_2.size) : Int) > IntKind.i64.max)) T.fail (T.ite (decide ((↑((x.2.1 ++ (ByteArray.mk #[108, 105, 103, 104, 116, 32]) ++ y ++ y_2).size + (ByteArray.mk #[10]).size) : Int) > IntKind.i64.max)) T.fail (T.ret (Ex.normal, x.1, x.2.1 ++ (ByteArray.mk #[108, 105, 103, 104, 116, 32]) ++ y ++ y_2 ++ (ByteArray.mk #[10]), W (x.2.2.1 + (1 : Int)), ())))))) (T.ret (Ex.exit (4 : Nat), x.1, x.2.1, x.2.2.1, ()))
noncomputable def ref24_Print.l4 (x : ((List ((Int × Int × Int) × (Int × Int × Int) × Int)) × (List ((Int × Int × Int) × (Int × Int × Int) × (Int × Int × Int) × Int)) × (List (Int × Int × Int × Int)) × Int × (List (Int × Int × Int)) × ((Int × Int × Int) × (Int × Int × Int) × (Int × Int × Int) × Int × Int × Int) × Int × Int) × ByteArray × Int × Unit) : Option (Ex × ((List ((Int × Int × Int) × (Int × Int × Int) × Int)) × (List ((Int × Int × Int) × (Int × Int × Int) × (Int × Int × Int) × Int)) × (List (Int × Int × Int × Int)) × Int × (List (Int × Int × Int)) × ((Int × Int × Int) × (Int × Int × Int) × (Int × Int × Int) × Int × Int × Int) × Int × Int) × ByteArray × Int × Unit) := (iterT ref24_Print.t4 rounds x).run
theorem ref24_Print.k4 : bodies 4 (lp Tryz.f11 []) = [.loop (loopIn 4 (lp Tryz.f11 []))] ∧ WP Tryz.prog 0 (.block 4 (.loop (loopIn 4 (lp Tryz.f11 [])))) (loopS ref24_Print.L4 173 4 [.exit 4] ref24_Print.l4) :=
  loop_tree (L := ref24_Print.L4) (F := ({ quiet := (ext (ext (ext (ext (ext (ext (ext (ext (ext (ext (ext (ext (ext Xs 27 ref24_three.q) 28 txt0.q) 28 txt1.q) 29 dig0.q) 29 dig1.q) 29 dig2.q) 29 dig3.q) 29 dig4.q) 29 dig5.q) 29 dig6.q) 29 dig7.q) 29 dig8.q) 29 dig9.q), deep := noDeep } : Fns)) (D := D0) (tab := []) (t := ref24_Print.t4) mixed (quiet_ext (quiet_ext (quiet_ext (quiet_ext (quiet_ext (quiet_ext (quiet_ext (quiet_ext (quiet_ext (quiet_ext (quiet_ext (quiet_ext (quiet_ext Xok ref24_three.ok) txt0.ok) txt1.ok) dig0.ok) dig1.ok) dig2.ok) dig3.ok) dig4.ok) dig5.ok) dig6.ok) dig7.ok) dig8.ok) dig9.ok) (deep_none _) (fun _ => rfl) (by kernel_rfl) (by kernel_rfl) trivial (fun x => by kernel_rfl)
def ref24_Print.L6 : List (Nat × Lay) := [(1, .box TScn), (3, .val .str), (8, .val TI)]
noncomputable def ref24_Print.t6 (x : ((List ((Int × Int × Int) × (Int × Int × Int) × Int)) × (List ((Int × Int × Int) × (Int × Int × Int) × (Int × Int × Int) × Int)) × (List (Int × Int × Int × Int)) × Int × (List (Int × Int × Int)) × ((Int × Int × Int) × (Int × Int × Int) × (Int × Int × Int) × Int × Int × Int) × Int × Int) × ByteArray × Int × Unit) : T (Ex × ((List ((Int × Int × Int) × (Int × Int × Int) × Int)) × (List ((Int × Int × Int) × (Int × Int × Int) × (Int × Int × Int) × Int)) × (List (Int × Int × Int × Int)) × Int × (List (Int × Int × Int)) × ((Int × Int × Int) × (Int × Int × Int) × (Int × Int × Int) × Int × Int × Int) × Int × Int) × ByteArray × Int × Unit) := T.ite (decide (x.2.2.1 < (↑(List.length x.1.2.2.2.2.1) : Int))) (T.ite (decide ((↑(ByteArray.size x.2.1 + (ByteArray.mk #[99, 101, 108, 108]).size) : Int) > IntKind.i64.max)) T.fail (T.opt (lget x.1.2.2.2.2.1 x.2.2.1) fun y => T.opt (ref24_three y) fun y => T.ite (decide ((↑((x.2.1 ++ (ByteArray.mk #[99, 101, 108, 108])).size + y.size) : Int) > IntKind.i64.max)) T.fail (T.ite (decide ((↑((x.2.1 ++ (ByteArray.mk #[99, 101, 108, 108]) ++ y).size + (ByteArray.mk #[10]).size) : Int) > IntKind.i64.max)) T.fail (T.ret (Ex.normal, x.1, x.2.1 ++ (ByteArray.mk #[99, 101, 108, 108]) ++ y ++ (ByteArray.mk #[10]), W (x.2.2.1 + (1 : Int)), ()))))) (T.ret (Ex.exit (6 : Nat), x.1, x.2.1, x.2.2.1, ()))
noncomputable def ref24_Print.l6 (x : ((List ((Int × Int × Int) × (Int × Int × Int) × Int)) × (List ((Int × Int × Int) × (Int × Int × Int) × (Int × Int × Int) × Int)) × (List (Int × Int × Int × Int)) × Int × (List (Int × Int × Int)) × ((Int × Int × Int) × (Int × Int × Int) × (Int × Int × Int) × Int × Int × Int) × Int × Int) × ByteArray × Int × Unit) : Option (Ex × ((List ((Int × Int × Int) × (Int × Int × Int) × Int)) × (List ((Int × Int × Int) × (Int × Int × Int) × (Int × Int × Int) × Int)) × (List (Int × Int × Int × Int)) × Int × (List (Int × Int × Int)) × ((Int × Int × Int) × (Int × Int × Int) × (Int × Int × Int) × Int × Int × Int) × Int × Int) × ByteArray × Int × Unit) := (iterT ref24_Print.t6 rounds x).run
theorem ref24_Print.k6 : bodies 6 (lp Tryz.f11 []) = [.loop (loopIn 6 (lp Tryz.f11 []))] ∧ WP Tryz.prog 0 (.block 6 (.loop (loopIn 6 (lp Tryz.f11 [])))) (loopS ref24_Print.L6 173 6 [.exit 6] ref24_Print.l6) :=
  loop_tree (L := ref24_Print.L6) (F := ({ quiet := (ext (ext (ext (ext (ext (ext (ext (ext (ext (ext (ext (ext (ext Xs 27 ref24_three.q) 28 txt0.q) 28 txt1.q) 29 dig0.q) 29 dig1.q) 29 dig2.q) 29 dig3.q) 29 dig4.q) 29 dig5.q) 29 dig6.q) 29 dig7.q) 29 dig8.q) 29 dig9.q), deep := noDeep } : Fns)) (D := D0) (tab := []) (t := ref24_Print.t6) mixed (quiet_ext (quiet_ext (quiet_ext (quiet_ext (quiet_ext (quiet_ext (quiet_ext (quiet_ext (quiet_ext (quiet_ext (quiet_ext (quiet_ext (quiet_ext Xok ref24_three.ok) txt0.ok) txt1.ok) dig0.ok) dig1.ok) dig2.ok) dig3.ok) dig4.ok) dig5.ok) dig6.ok) dig7.ok) dig8.ok) dig9.ok) (deep_none _) (fun _ => rfl) (by kernel_rfl) (by kernel_rfl) trivial (fun x => by kernel_rfl)
noncomputable def ref24_Print.t (x : ((List ((Int × Int × Int) × (Int × Int × Int) × Int)) × (List ((Int × Int × Int) × (Int × Int × Int) × (Int × Int × Int) × Int)) × (List (Int × Int × Int × Int)) × Int × (List (Int × Int × Int)) × ((Int × Int × Int) × (Int × Int × Int) × (Int × Int × Int) × Int × Int × Int) × Int × Int)) : T (ByteArray) := T.opt (ref24_Print.l0 (x, (ByteArray.mk #[]), (0 : Int), ())) fun y => T.ite (exEq y.1 (Ex.exit (0 : Nat))) (T.opt (ref24_Print.l2 (y.2.1, y.2.2.1, (0 : Int), ())) fun y => T.ite (exEq y.1 (Ex.exit (2 : Nat))) (T.opt (ref24_Print.l4 (y.2.1, y.2.2.1, (0 : Int), ())) fun y => T.ite (exEq y.1 (Ex.exit (4 : Nat))) (T.ite (decide (y.2.1.2.2.2.1 > (0 : Int))) (T.ite (decide ((↑(ByteArray.size y.2.2.1 + (ByteArray.mk #[115, 107, 121, 32]).size) : Int) > IntKind.i64.max)) T.fail (T.opt (dig9 y.2.1.2.2.2.1) fun y_1 => T.ite (decide ((↑((y.2.2.1 ++ (ByteArray.mk #[115, 107, 121, 32])).size + y_1.size) : Int) > IntKind.i64.max)) T.fail (T.ite (decide ((↑((y.2.2.1 ++ (ByteArray.mk #[115, 107, 121, 32]) ++ y_1).size + (ByteArray.mk #[10]).size) : Int) > IntKind.i64.max)) T.fail (T.opt (ref24_Print.l6 (y.2.1, y.2.2.1 ++ (ByteArray.mk #[115, 107, 121, 32]) ++ y_1 ++ (ByteArray.mk #[10]), (0 : Int), ())) fun y => T.ite (exEq y.1 (Ex.exit (6 : Nat))) (T.ite (decide ((↑(ByteArray.size y.2.2.1 + (ByteArray.mk #[99, 97, 109, 101, 114, 97]).size) : Int) > IntKind.i64.max)) T.fail (T.opt (ref24_three y.2.1.2.2.2.2.2.1.1) fun y_2 => T.ite (decide ((↑((y.2.2.1 ++ (ByteArray.mk #[99, 97, 109, 101, 114, 97])).size + y_2.size) : Int) > IntKind.i64.max)) T.fail (T.opt (ref24_three y.2.1.2.2.2.2.2.1.2.1) fun y_3 => T.ite (decide ((↑((y.2.2.1 ++ (ByteArray.mk #[99, 97, 109, 101, 114, 97]) ++ y_2).size + y_3.size) : Int) > IntKind.i64.max)) T.fail (T.opt (ref24_three y.2.1.2.2.2.2.2.1.2.2.1) fun y_4 => T.ite (decide ((↑((y.2.2.1 ++ (ByteArray.mk #[99, 97, 109, 101, 114, 97]) ++ y_2 ++ y_3).size + y_4.size) : Int) > IntKind.i64.max)) T.fail (T.ite (decide ((↑((y.2.2.1 ++ (ByteArray.mk #[99, 97, 109, 101, 114, 97]) ++ y_2 ++ y_3 ++ y_4).size + (ByteArray.mk #[32]).size) : Int) > IntKind.i64.max)) T.fail (T.opt (txt1 y.2.1.2.2.2.2.2.1.2.2.2.1) fun y_5 => T.ite (decide ((↑((y.2.2.1 ++ (ByteArray.mk #[99, 97, 109, 101, 114, 97]) ++ y_2 ++ y_3 ++ y_4 ++ (ByteArray.mk #[32])).size + y_5.size) : Int) > IntKind.i64.max)) T.fail (T.ite (decide ((↑((y.2.2.1 ++ (ByteArray.mk #[99, 97, 109, 101, 114, 97]) ++ y_2 ++ y_3 ++ y_4 ++ (ByteArray.mk #[32]) ++ y_5).size + (ByteArray.mk #[32]).size) : Int) > IntKind.i64.max)) T.fail (T.opt (txt1 y.2.1.2.2.2.2.2.1.2.2.2.2.1) fun y_6 => T.ite (decide ((↑((y.2.2.1 ++ (ByteArray.mk #[99, 97, 109, 101, 114, 97]) ++ y_2 ++ y_3 ++ y_4 ++ (ByteArray.mk #[32]) ++ y_5 ++ (ByteArray.mk #[32])).size + y_6.size) : Int) > IntKind.i64.max)) T.fail (T.ite (decide ((↑((y.2.2.1 ++ (ByteArray.mk #[99, 97, 109, 101, 114, 97]) ++ y_2 ++ y_3 ++ y_4 ++ (ByteArray.mk #[32]) ++ y_5 ++ (ByteArray.mk #[32]) ++ y_6).size + (ByteArray.mk #[32]).size) : Int) > IntKind.i64.max)) T.fail (T.opt (txt1 y.2.1.2.2.2.2.2.1.2.2.2.2.2) fun y_7 => T.ite (decide ((↑((y.2.2.1 ++ (ByteArray.mk #[99, 97, 109, 101, 114, 97]) ++ y_2 ++ y_3 ++ y_4 ++ (ByteArray.mk #[32]) ++ y_5 ++ (ByteArray.mk #[32]) ++ y_6 ++ (ByteArray.mk #[32])).size + y_7.size) : Int) > IntKind.i64.max)) T.fail (T.ite (decide ((↑((y.2.2.1 ++ (ByteArray.mk #[99, 97, 109, 101, 114, 97]) ++ y_2 ++ y_3 ++ y_4 ++ (ByteArray.mk #[32]) ++ y_5 ++ (ByteArray.mk #[32]) ++ y_6 ++ (ByteArray.mk #[32]) ++ y_7).size + (ByteArray.mk #[10]).size) : Int) > IntKind.i64.max)) T.fail (T.ite (decide ((↑((y.2.2.1 ++ (ByteArray.mk #[99, 97, 109, 101, 114, 97]) ++ y_2 ++ y_3 ++ y_4 ++ (ByteArray.mk #[32]) ++ y_5 ++ (ByteArray.mk #[32]) ++ y_6 ++ (ByteArray.mk #[32]) ++ y_7 ++ (ByteArray.mk #[10])).size + (ByteArray.mk #[102, 105, 108, 116, 101, 114, 32]).size) : Int) > IntKind.i64.max)) T.fail (T.opt (dig9 y.2.1.2.2.2.2.2.2.1) fun y_8 => T.ite (decide ((↑((y.2.2.1 ++ (ByteArray.mk #[99, 97, 109, 101, 114, 97]) ++ y_2 ++ y_3 ++ y_4 ++ (ByteArray.mk #[32]) ++ y_5 ++ (ByteArray.mk #[32]) ++ y_6 ++ (ByteArray.mk #[32]) ++ y_7 ++ (ByteArray.mk #[10]) ++ (ByteArray.mk #[102, 105, 108, 116, 101, 114, 32])).size + y_8.size) : Int) > IntKind.i64.max)) T.fail (T.ite (decide ((↑((y.2.2.1 ++ (ByteArray.mk #[99, 97, 109, 101, 114, 97]) ++ y_2 ++ y_3 ++ y_4 ++ (ByteArray.mk #[32]) ++ y_5 ++ (ByteArray.mk #[32]) ++ y_6 ++ (ByteArray.mk #[32]) ++ y_7 ++ (ByteArray.mk #[10]) ++ (ByteArray.mk #[102, 105, 108, 116, 101, 114, 32]) ++ y_8).size + (ByteArray.mk #[32]).size) : Int) > IntKind.i64.max)) T.fail (T.opt (txt1 y.2.1.2.2.2.2.2.2.2) fun y_9 => T.ite (decide ((↑((y.2.2.1 ++ (ByteArray.mk #[99, 97, 109, 101, 114, 97]) ++ y_2 ++ y_3 ++ y_4 ++ (ByteArray.mk #[32]) ++ y_5 ++ (ByteArray.mk #[32]) ++ y_6 ++ (ByteArray.mk #[32]) ++ y_7 ++ (ByteArray.mk #[10]) ++ (ByteArray.mk #[102, 105, 108, 116, 101, 114, 32]) ++ y_8 ++ (ByteArray.mk #[32])).size + y_9.size) : Int) > IntKind.i64.max)) T.fail (T.ite (decide ((↑((y.2.2.1 ++ (ByteArray.mk #[99, 97, 109, 101, 114, 97]) ++ y_2 ++ y_3 ++ y_4 ++ (ByteArray.mk #[32]) ++ y_5 ++ (ByteArray.mk #[32]) ++ y_6 ++ (ByteArray.mk #[32]) ++ y_7 ++ (ByteArray.mk #[10]) ++ (ByteArray.mk #[102, 105, 108, 116, 101, 114, 32]) ++ y_8 ++ (ByteArray.mk #[32]) ++ y_9).size + (ByteArray.mk #[10]).size) : Int) > IntKind.i64.max)) T.fail (T.ret (y.2.2.1 ++ (ByteArray.mk #[99, 97, 109, 101, 114, 97]) ++ y_2 ++ y_3 ++ y_4 ++ (ByteArray.mk #[32]) ++ y_5 ++ (ByteArray.mk #[32]) ++ y_6 ++ (ByteArray.mk #[32]) ++ y_7 ++ (ByteArray.mk #[10]) ++ (ByteArray.mk #[102, 105, 108, 116, 101, 114, 32]) ++ y_8 ++ (ByteArray.mk #[32]) ++ y_9 ++ (ByteArray.mk #[10]))))))))))))))))))) T.fail)))) (T.opt (ref24_Print.l6 (y.2.1, y.2.2.1, (0 : Int), ())) fun y => T.ite (exEq y.1 (Ex.exit (6 : Nat))) (T.ite (decide ((↑(ByteArray.size y.2.2.1 + (ByteArray.mk #[99, 97, 109, 101, 114, 97]).size) : Int) > IntKind.i64.max)) T.fail (T.opt (ref24_three y.2.1.2.2.2.2.2.1.1) fun y_1 => T.ite (decide ((↑((y.2.2.1 ++ (ByteArray.mk #[99, 97, 109, 101, 114, 97])).size + y_1.size) : Int) > IntKind.i64.max)) T.fail (T.opt (ref24_three y.2.1.2.2.2.2.2.1.2.1) fun y_2 => T.ite (decide ((↑((y.2.2.1 ++ (ByteArray.mk #[99, 97, 109, 101, 114, 97]) ++ y_1).size + y_2.size) : Int) > IntKind.i64.max)) T.fail (T.opt (ref24_three y.2.1.2.2.2.2.2.1.2.2.1) fun y_3 => T.ite (decide ((↑((y.2.2.1 ++ (ByteArray.mk #[99, 97, 109, 101, 114, 97]) ++ y_1 ++ y_2).size + y_3.size) : Int) > IntKind.i64.max)) T.fail (T.ite (decide ((↑((y.2.2.1 ++ (ByteArray.mk #[99, 97, 109, 101, 114, 97]) ++ y_1 ++ y_2 ++ y_3).size + (ByteArray.mk #[32]).size) : Int) > IntKind.i64.max)) T.fail (T.opt (txt1 y.2.1.2.2.2.2.2.1.2.2.2.1) fun y_4 => T.ite (decide ((↑((y.2.2.1 ++ (ByteArray.mk #[99, 97, 109, 101, 114, 97]) ++ y_1 ++ y_2 ++ y_3 ++ (ByteArray.mk #[32])).size + y_4.size) : Int) > IntKind.i64.max)) T.fail (T.ite (decide ((↑((y.2.2.1 ++ (ByteArray.mk #[99, 97, 109, 101, 114, 97]) ++ y_1 ++ y_2 ++ y_3 ++ (ByteArray.mk #[32]) ++ y_4).size + (ByteArray.mk #[32]).size) : Int) > IntKind.i64.max)) T.fail (T.opt (txt1 y.2.1.2.2.2.2.2.1.2.2.2.2.1) fun y_5 => T.ite (decide ((↑((y.2.2.1 ++ (ByteArray.mk #[99, 97, 109, 101, 114, 97]) ++ y_1 ++ y_2 ++ y_3 ++ (ByteArray.mk #[32]) ++ y_4 ++ (ByteArray.mk #[32])).size + y_5.size) : Int) > IntKind.i64.max)) T.fail (T.ite (decide ((↑((y.2.2.1 ++ (ByteArray.mk #[99, 97, 109, 101, 114, 97]) ++ y_1 ++ y_2 ++ y_3 ++ (ByteArray.mk #[32]) ++ y_4 ++ (ByteArray.mk #[32]) ++ y_5).size + (ByteArray.mk #[32]).size) : Int) > IntKind.i64.max)) T.fail (T.opt (txt1 y.2.1.2.2.2.2.2.1.2.2.2.2.2) fun y_6 => T.ite (decide ((↑((y.2.2.1 ++ (ByteArray.mk #[99, 97, 109, 101, 114, 97]) ++ y_1 ++ y_2 ++ y_3 ++ (ByteArray.mk #[32]) ++ y_4 ++ (ByteArray.mk #[32]) ++ y_5 ++ (ByteArray.mk #[32])).size + y_6.size) : Int) > IntKind.i64.max)) T.fail (T.ite (decide ((↑((y.2.2.1 ++ (ByteArray.mk #[99, 97, 109, 101, 114, 97]) ++ y_1 ++ y_2 ++ y_3 ++ (ByteArray.mk #[32]) ++ y_4 ++ (ByteArray.mk #[32]) ++ y_5 ++ (ByteArray.mk #[32]) ++ y_6).size + (ByteArray.mk #[10]).size) : Int) > IntKind.i64.max)) T.fail (T.ite (decide ((↑((y.2.2.1 ++ (ByteArray.mk #[99, 97, 109, 101, 114, 97]) ++ y_1 ++ y_2 ++ y_3 ++ (ByteArray.mk #[32]) ++ y_4 ++ (ByteArray.mk #[32]) ++ y_5 ++ (ByteArray.mk #[32]) ++ y_6 ++ (ByteArray.mk #[10])).size + (ByteArray.mk #[102, 105, 108, 116, 101, 114, 32]).size) : Int) > IntKind.i64.max)) T.fail (T.opt (dig9 y.2.1.2.2.2.2.2.2.1) fun y_7 => T.ite (decide ((↑((y.2.2.1 ++ (ByteArray.mk #[99, 97, 109, 101, 114, 97]) ++ y_1 ++ y_2 ++ y_3 ++ (ByteArray.mk #[32]) ++ y_4 ++ (ByteArray.mk #[32]) ++ y_5 ++ (ByteArray.mk #[32]) ++ y_6 ++ (ByteArray.mk #[10]) ++ (ByteArray.mk #[102, 105, 108, 116, 101, 114, 32])).size + y_7.size) : Int) > IntKind.i64.max)) T.fail (T.ite (decide ((↑((y.2.2.1 ++ (ByteArray.mk #[99, 97, 109, 101, 114, 97]) ++ y_1 ++ y_2 ++ y_3 ++ (ByteArray.mk #[32]) ++ y_4 ++ (ByteArray.mk #[32]) ++ y_5 ++ (ByteArray.mk #[32]) ++ y_6 ++ (ByteArray.mk #[10]) ++ (ByteArray.mk #[102, 105, 108, 116, 101, 114, 32]) ++ y_7).size + (ByteArray.mk #[32]).size) : Int) > IntKind.i64.max)) T.fail (T.opt (txt1 y.2.1.2.2.2.2.2.2.2) fun y_8 => T.ite (decide ((↑((y.2.2.1 ++ (ByteArray.mk #[99, 97, 109, 101, 114, 97]) ++ y_1 ++ y_2 ++ y_3 ++ (ByteArray.mk #[32]) ++ y_4 ++ (ByteArray.mk #[32]) ++ y_5 ++ (ByteArray.mk #[32]) ++ y_6 ++ (ByteArray.mk #[10]) ++ (ByteArray.mk #[102, 105, 108, 116, 101, 114, 32]) ++ y_7 ++ (ByteArray.mk #[32])).size + y_8.size) : Int) > IntKind.i64.max)) T.fail (T.ite (decide ((↑((y.2.2.1 ++ (ByteArray.mk #[99, 97, 109, 101, 114, 97]) ++ y_1 ++ y_2 ++ y_3 ++ (ByteArray.mk #[32]) ++ y_4 ++ (ByteArray.mk #[32]) ++ y_5 ++ (ByteArray.mk #[32]) ++ y_6 ++ (ByteArray.mk #[10]) ++ (ByteArray.mk #[102, 105, 108, 116, 101, 114, 32]) ++ y_7 ++ (ByteArray.mk #[32]) ++ y_8).size + (ByteArray.mk #[10]).size) : Int) > IntKind.i64.max)) T.fail (T.ret (y.2.2.1 ++ (ByteArray.mk #[99, 97, 109, 101, 114, 97]) ++ y_1 ++ y_2 ++ y_3 ++ (ByteArray.mk #[32]) ++ y_4 ++ (ByteArray.mk #[32]) ++ y_5 ++ (ByteArray.mk #[32]) ++ y_6 ++ (ByteArray.mk #[10]) ++ (ByteArray.mk #[102, 105, 108, 116, 101, 114, 32]) ++ y_7 ++ (ByteArray.mk #[32]) ++ y_8 ++ (ByteArray.mk #[10]))))))))))))))))))) T.fail)) T.fail) T.fail) T.fail
noncomputable def ref24_Print (x : ((List ((Int × Int × Int) × (Int × Int × Int) × Int)) × (List ((Int × Int × Int) × (Int × Int × Int) × (Int × Int × Int) × Int)) × (List (Int × Int × Int × Int)) × Int × (List (Int × Int × Int)) × ((Int × Int × Int) × (Int × Int × Int) × (Int × Int × Int) × Int × Int × Int) × Int × Int)) : Option (ByteArray) := (ref24_Print.t x).run
noncomputable def ref24_Print.q : List AV → T AV := entry [TScn] (outR [.str]) fun x => .opt (ref24_Print x) .ret
theorem ref24_Print.ok : FnOK Tryz.prog 11 ref24_Print.q :=
  entry_call (ps := [TScn]) (rs := [.str]) (F := ({ quiet := (ext (ext (ext (ext (ext (ext (ext (ext (ext (ext (ext (ext (ext Xs 27 ref24_three.q) 28 txt0.q) 28 txt1.q) 29 dig0.q) 29 dig1.q) 29 dig2.q) 29 dig3.q) 29 dig4.q) 29 dig5.q) 29 dig6.q) 29 dig7.q) 29 dig8.q) 29 dig9.q), deep := noDeep } : Fns)) (D := D0) (S := tabS [(0, loopS ref24_Print.L0 173 0 [.exit 0] ref24_Print.l0), (2, loopS ref24_Print.L2 173 2 [.exit 2] ref24_Print.l2), (4, loopS ref24_Print.L4 173 4 [.exit 4] ref24_Print.l4), (6, loopS ref24_Print.L6 173 6 [.exit 6] ref24_Print.l6)]) (t := ref24_Print.t) mixed (quiet_ext (quiet_ext (quiet_ext (quiet_ext (quiet_ext (quiet_ext (quiet_ext (quiet_ext (quiet_ext (quiet_ext (quiet_ext (quiet_ext (quiet_ext Xok ref24_three.ok) txt0.ok) txt1.ok) dig0.ok) dig1.ok) dig2.ok) dig3.ok) dig4.ok) dig5.ok) dig6.ok) dig7.ok) dig8.ok) dig9.ok) (deep_none _) Tryz.func11 (by kernel_rfl) (sok_fn ⟨ref24_Print.k0, ref24_Print.k2, ref24_Print.k4, ref24_Print.k6, trivial⟩) (by kernel_rfl) (fun x => by kernel_rfl)
end Go.Proofs.Pen

namespace Go.Proofs.Pen
open Go Go.Proofs
end Go.Proofs.Pen

namespace Go.Proofs.Pen
open Go Go.Proofs

def sMat : List UInt8 := [109, 97, 116]
def sTri : List UInt8 := [116, 114, 105]
def sLight : List UInt8 := [108, 105, 103, 104, 116]
def sSky : List UInt8 := [115, 107, 121]
def sCell : List UInt8 := [99, 101, 108, 108]
def sCam : List UInt8 := [99, 97, 109, 101, 114, 97]
def sFil : List UInt8 := [102, 105, 108, 116, 101, 114]
abbrev LineT := List UInt8 × List (List UInt8)
def tx3 (p : W3) : List (List UInt8) := [Tx p.1, Tx p.2.1, Tx p.2.2]
def Wx (k : Int) : List UInt8 := dgs 10 k.toNat
def matP (m : MatT) : LineT := (sMat, tx3 m.1 ++ tx3 m.2.1 ++ [Tx m.2.2])
def triP (t : TriT) : LineT := (sTri, Wx t.2.2.2 :: (tx3 t.1 ++ tx3 t.2.1 ++ tx3 t.2.2.1))
def litP (t : LitT) : LineT := (sLight, Wx t.1 :: tx3 t.2)
def celP (c : W3) : LineT := (sCell, tx3 c)
def skyP (z : Int) : List LineT := if 0 < z then [(sSky, [Wx z])] else []
def camP (c : CamT) : LineT := (sCam, tx3 c.1 ++ tx3 c.2.1 ++ tx3 c.2.2.1 ++ [Tx c.2.2.2.1, Tx c.2.2.2.2.1, Tx c.2.2.2.2.2])
def filP (k h : Int) : LineT := (sFil, [Wx k, Tx h])
def PL (s : ScT) : List LineT := s.1.map matP ++ s.2.1.map triP ++ s.2.2.1.map litP ++ skyP s.2.2.2.1 ++ s.2.2.2.2.1.map celP ++ [camP s.2.2.2.2.2.1, filP s.2.2.2.2.2.2.1 s.2.2.2.2.2.2.2]
def jn (l : LineT) : List UInt8 := l.1 ++ l.2.flatMap fun w => 32 :: w
def flat (l : List LineT) : List UInt8 := l.flatMap fun x => jn x ++ [10]

theorem flat_app (a b : List LineT) : flat (a ++ b) = flat a ++ flat b := by simp [flat]
theorem flat_map {α : Type} (f : α → LineT) (l : List α) : flat (l.map f) = l.flatMap fun a => jn (f a) ++ [10] := by simp [flat, List.flatMap_map]

theorem Tx_len (k : Int) : (Tx k).length ≤ 22 := by
  unfold Tx
  have := Nx_len k.natAbs
  split <;> simp <;> omega
theorem Wx_len (k : Int) : (Wx k).length ≤ 10 := dgs_len _ _
def th (p : W3) : List UInt8 := (tx3 p).flatMap fun w => 32 :: w
theorem th_len (p : W3) : (th p).length ≤ 69 := by
  have h1 := Tx_len p.1
  have h2 := Tx_len p.2.1
  have h3 := Tx_len p.2.2
  simp [th, tx3]
  omega

theorem big_no {n : Nat} (h : n ≤ 1000000) : decide (((n : Nat) : Int) > IntKind.i64.max) = false := by
  have e : IntKind.i64.max = 9223372036854775807 := rfl
  rw [e]
  exact decide_eq_false (by omega)

def inT (k : Int) : Prop := -1099511627776 ≤ k ∧ k ≤ 1099511627776
def in3T (p : W3) : Prop := inT p.1 ∧ inT p.2.1 ∧ inT p.2.2
theorem in3T_of {p : W3} {lo hi : Int} (h : in3 p lo hi = true) (h0 : -1099511627776 ≤ lo) (h1 : hi ≤ 1099511627776) : in3T p := by
  obtain ⟨⟨a, b⟩, ⟨c, d⟩, e, f⟩ := in3_iff.1 h
  exact ⟨⟨by omega, by omega⟩, ⟨by omega, by omega⟩, by omega, by omega⟩

theorem B32 : ByteArray.mk #[32] = B [32] := rfl
theorem B10 : ByteArray.mk #[10] = B [10] := rfl
theorem three_eq {p : W3} (h : in3T p) : ref24_three p = some (B (th p)) := by
  obtain ⟨⟨a, b⟩, ⟨c, d⟩, e, f⟩ := h
  have h1 := Tx_len p.1
  have h2 := Tx_len p.2.1
  have h3 := Tx_len p.2.2
  unfold ref24_three ref24_three.t
  simp only [B32]
  rw [tr_opt, txt1_eq a b, Option.bind_some]
  simp only [B_app, B_size]
  rw [tr_no (big_no (by simp; omega)), tr_no (big_no (by simp; omega)), tr_opt, txt1_eq c d, Option.bind_some]
  simp only [B_app, B_size]
  rw [tr_no (big_no (by simp; omega)), tr_no (big_no (by simp; omega)), tr_opt, txt1_eq e f, Option.bind_some]
  simp only [B_app, B_size]
  rw [tr_no (big_no (by simp; omega)), tr_ret]
  simp [th, tx3]

theorem app_loop {t : ScT × ByteArray × Int × Unit → T (Ex × ScT × ByteArray × Int × Unit)} (x : ScT) {α : Type} (l : List α) (f : α → List UInt8) {e : Ex} (he : e ≠ .normal)
    (hstop : ∀ u : List UInt8, (t (x, B u, (l.length : Int), ())).run = some (e, x, B u, (l.length : Int), ()))
    (hgo : ∀ (k : Nat) (hk : k < l.length) (u : List UInt8), u.length ≤ 400000 → (t (x, B u, (k : Int), ())).run = some (.normal, x, B (u ++ f l[k]), ((k + 1 : Nat) : Int), ()))
    (hf : ∀ a ∈ l, (f a).length ≤ 300) : ∀ (c k m : Nat) (u : List UInt8), k + c = l.length → c < m → u.length + 300 * c ≤ 400000 →
    (iterT t m (x, B u, (k : Int), ())).run = some (e, x, B (u ++ (l.drop k).flatMap f), (l.length : Int), ())
  | _, _, 0, _, _, hm, _ => absurd hm (Nat.not_lt_zero _)
  | 0, k, m + 1, u, hk, _, _ => by
    have hk : k = l.length := by omega
    subst hk
    rw [iter_stop he (hstop u), List.drop_length]
    simp
  | c + 1, k, m + 1, u, hk, hm, hu => by
    have hlt : k < l.length := by omega
    have h1 := hgo k hlt u (by omega)
    have h2 := hf _ (List.getElem_mem hlt)
    rw [iter_go h1, app_loop x l f he hstop hgo hf c (k + 1) m (u ++ f l[k]) (by omega) (by omega) (by simp; omega), List.drop_eq_getElem_cons hlt]
    simp only [List.flatMap_cons, List.append_assoc]

theorem matG_in {m : MatT} (h : matG m) : in3T m.1 ∧ in3T m.2.1 ∧ inT m.2.2 := by
  have h : matW m 0 = none := h
  unfold matW at h
  split at h
  · cases h
  · rename_i h1
    split at h
    · cases h
    · rename_i h2
      have h1 := nf h1
      simp only [Bool.and_eq_true, decide_eq_true_eq] at h1
      obtain ⟨⟨⟨a, b⟩, c⟩, d⟩ := h1
      have c := in3_iff.1 c
      have d := in3_iff.1 d
      simp only [over1, Bool.or_eq_true, decide_eq_true_eq, not_or] at h2
      refine ⟨⟨⟨?_, ?_⟩, ⟨?_, ?_⟩, ?_, ?_⟩, ⟨⟨?_, ?_⟩, ⟨?_, ?_⟩, ?_, ?_⟩, ?_, ?_⟩ <;> omega
theorem triG_in {n : Int} {t : TriT} (h : triG n t) : in3T t.1 ∧ in3T t.2.1 ∧ in3T t.2.2.1 := by
  obtain ⟨_, _, h, _⟩ := h
  simp only [Bool.and_eq_true] at h
  exact ⟨in3T_of h.1.1 (by omega) (by omega), in3T_of h.1.2 (by omega) (by omega), in3T_of h.2 (by omega) (by omega)⟩
theorem camG_in {x : ScT} (h : camW x = none) : (in3T x.2.2.2.2.2.1.1 ∧ in3T x.2.2.2.2.2.1.2.1 ∧ in3T x.2.2.2.2.2.1.2.2.1 ∧ inT x.2.2.2.2.2.1.2.2.2.1 ∧ inT x.2.2.2.2.2.1.2.2.2.2.1 ∧ inT x.2.2.2.2.2.1.2.2.2.2.2) ∧ (1 ≤ x.2.2.2.2.2.2.1 ∧ x.2.2.2.2.2.2.1 ≤ 2) ∧ 1 ≤ x.2.2.2.2.2.2.2 ∧ x.2.2.2.2.2.2.2 ≤ 8192 := by
  unfold camW at h
  dsimp only at h
  split at h
  · cases h
  rename_i h1
  split at h
  · cases h
  split at h
  · cases h
  rename_i h2
  split at h
  · cases h
  rename_i h3
  have h1 := nf h1
  have h3 := nf h3
  simp only [Bool.and_eq_true, decide_eq_true_eq] at h1 h3
  obtain ⟨⟨⟨⟨⟨a, b⟩, c⟩, d⟩, e⟩, f⟩ := h1
  have h2 : x.2.2.2.2.2.2.1 = 1 ∨ x.2.2.2.2.2.2.1 = 2 := by
    by_cases h4 : x.2.2.2.2.2.2.1 = 1
    · exact .inl h4
    · exact .inr (by simpa [h4] using h2)
  exact ⟨⟨in3T_of a (by omega) (by omega), in3T_of b (by omega) (by omega), in3T_of c (by omega) (by omega), ⟨by omega, by omega⟩, ⟨by omega, by omega⟩, by omega, by omega⟩, ⟨by omega, by omega⟩, h3.1, h3.2⟩
theorem Wx_eq {k : Int} (h0 : 0 ≤ k) (h1 : k ≤ 1000000) : dig9 k = some (B (Wx k)) := by
  obtain ⟨n, rfl⟩ : ∃ n : Nat, k = n := ⟨k.toNat, by omega⟩
  exact dig9_eq n (by omega)
end Go.Proofs.Pen

namespace Go.Proofs.Pen
open Go Go.Proofs

theorem mats_text (s : ScT) (h : ∀ m ∈ s.1, matG m) (hl : s.1.length ≤ 100) (u : List UInt8) (hu : u.length ≤ 300000) :
    ref24_Print.l0 (s, B u, 0, ()) = some (.exit 0, s, B (u ++ flat (s.1.map matP)), (s.1.length : Int), ()) := by
  have key := app_loop (t := ref24_Print.t0) s s.1 (fun a => jn (matP a) ++ [10]) (e := .exit 0) (by simp)
    (fun u => by
      unfold ref24_Print.t0
      dsimp only
      rw [tr_no (by simp), tr_ret])
    (fun k hk u hu => by
      obtain ⟨h1, h2, h3⟩ := matG_in (h _ (List.getElem_mem hk))
      have l1 := th_len s.1[k].1
      have l2 := th_len s.1[k].2.1
      have l3 := Tx_len s.1[k].2.2
      have hm : ByteArray.mk #[109, 97, 116] = B [109, 97, 116] := rfl
      have hW : W ((k : Int) + 1) = ((k + 1 : Nat) : Int) := by rw [W_id (by omega) (by omega)]; omega
      unfold ref24_Print.t0
      dsimp only
      simp only [hm, B32, B10, hW, B_app, B_size]
      rw [tr_yes (decide_eq_true (by omega)), tr_no (big_no (by simp; omega)), tr_opt, lget_nat s.1 hk, Option.bind_some, tr_opt, three_eq h1, Option.bind_some]
      simp only [B_app, B_size]
      rw [tr_no (big_no (by simp; omega)), tr_opt, Option.bind_some, tr_opt, three_eq h2, Option.bind_some]
      simp only [B_app, B_size]
      rw [tr_no (big_no (by simp; omega)), tr_no (big_no (by simp; omega)), tr_opt, Option.bind_some, tr_opt, txt1_eq h3.1 h3.2, Option.bind_some]
      simp only [B_app, B_size]
      rw [tr_no (big_no (by simp; omega)), tr_no (big_no (by simp; omega)), tr_ret]
      simp [jn, matP, th, sMat])
    (fun a _ => by
      have l1 := Tx_len a.1.1
      have l2 := Tx_len a.1.2.1
      have l3 := Tx_len a.1.2.2
      have l4 := Tx_len a.2.1.1
      have l5 := Tx_len a.2.1.2.1
      have l6 := Tx_len a.2.1.2.2
      have l7 := Tx_len a.2.2
      simp [jn, matP, sMat, tx3]
      omega) s.1.length 0 rounds u (by omega) (rounds_gt (by omega)) (by omega)
  rw [List.drop_zero, ← flat_map] at key
  exact key

theorem tris_text (s : ScT) {n : Int} (hn : n ≤ 1000000) (h : ∀ m ∈ s.2.1, triG n m) (hl : s.2.1.length ≤ 100) (u : List UInt8) (hu : u.length ≤ 300000) :
    ref24_Print.l2 (s, B u, 0, ()) = some (.exit 2, s, B (u ++ flat (s.2.1.map triP)), (s.2.1.length : Int), ()) := by
  have key := app_loop (t := ref24_Print.t2) s s.2.1 (fun a => jn (triP a) ++ [10]) (e := .exit 2) (by simp)
    (fun u => by
      unfold ref24_Print.t2
      dsimp only
      rw [tr_no (by simp), tr_ret])
    (fun k hk u hu => by
      have hg := h _ (List.getElem_mem hk)
      obtain ⟨h1, h2, h3⟩ := triG_in hg
      have l1 := th_len s.2.1[k].1
      have l2 := th_len s.2.1[k].2.1
      have l3 := th_len s.2.1[k].2.2.1
      have l4 := Wx_len s.2.1[k].2.2.2
      have hm : ByteArray.mk #[116, 114, 105, 32] = B [116, 114, 105, 32] := rfl
      have hW : W ((k : Int) + 1) = ((k + 1 : Nat) : Int) := by rw [W_id (by omega) (by omega)]; omega
      unfold ref24_Print.t2
      dsimp only
      simp only [hm, B10, hW, B_app, B_size]
      rw [tr_yes (decide_eq_true (by omega)), tr_opt, lget_nat s.2.1 hk, Option.bind_some, tr_no (big_no (by simp; omega)), tr_opt, Wx_eq hg.1 (by have := hg.2.1; omega), Option.bind_some]
      simp only [B_app, B_size]
      rw [tr_no (big_no (by simp; omega)), tr_opt, three_eq h1, Option.bind_some]
      simp only [B_app, B_size]
      rw [tr_no (big_no (by simp; omega)), tr_opt, three_eq h2, Option.bind_some]
      simp only [B_app, B_size]
      rw [tr_no (big_no (by simp; omega)), tr_opt, three_eq h3, Option.bind_some]
      simp only [B_app, B_size]
      rw [tr_no (big_no (by simp; omega)), tr_no (big_no (by simp; omega)), tr_ret]
      simp [jn, triP, th, sTri])
    (fun a _ => by
      have l1 := Tx_len a.1.1
      have l2 := Tx_len a.1.2.1
      have l3 := Tx_len a.1.2.2
      have l4 := Tx_len a.2.1.1
      have l5 := Tx_len a.2.1.2.1
      have l6 := Tx_len a.2.1.2.2
      have l7 := Tx_len a.2.2.1.1
      have l8 := Tx_len a.2.2.1.2.1
      have l9 := Tx_len a.2.2.1.2.2
      have l10 := Wx_len a.2.2.2
      simp [jn, triP, sTri, tx3]
      omega) s.2.1.length 0 rounds u (by omega) (rounds_gt (by omega)) (by omega)
  rw [List.drop_zero, ← flat_map] at key
  exact key

theorem lits_text (s : ScT) {n : Int} (hn : n ≤ 1000000) (h : ∀ m ∈ s.2.2.1, litG n m) (hl : s.2.2.1.length ≤ 100) (u : List UInt8) (hu : u.length ≤ 300000) :
    ref24_Print.l4 (s, B u, 0, ()) = some (.exit 4, s, B (u ++ flat (s.2.2.1.map litP)), (s.2.2.1.length : Int), ()) := by
  have key := app_loop (t := ref24_Print.t4) s s.2.2.1 (fun a => jn (litP a) ++ [10]) (e := .exit 4) (by simp)
    (fun u => by
      unfold ref24_Print.t4
      dsimp only
      rw [tr_no (by simp), tr_ret])
    (fun k hk u hu => by
      have hg := h _ (List.getElem_mem hk)
      have h1 : in3T s.2.2.1[k].2 := in3T_of hg.2.2 (by omega) (by omega)
      have l1 := th_len s.2.2.1[k].2
      have l4 := Wx_len s.2.2.1[k].1
      have hm : ByteArray.mk #[108, 105, 103, 104, 116, 32] = B [108, 105, 103, 104, 116, 32] := rfl
      have hW : W ((k : Int) + 1) = ((k + 1 : Nat) : Int) := by rw [W_id (by omega) (by omega)]; omega
      unfold ref24_Print.t4
      dsimp only
      simp only [hm, B10, hW, B_app, B_size]
      rw [tr_yes (decide_eq_true (by omega)), tr_no (big_no (by simp; omega)), tr_opt, lget_nat s.2.2.1 hk, Option.bind_some, tr_opt, Wx_eq hg.1 (by have := hg.2.1; omega), Option.bind_some]
      simp only [B_app, B_size]
      rw [tr_no (big_no (by simp; omega)), tr_opt, Option.bind_some, tr_opt, three_eq h1, Option.bind_some]
      simp only [B_app, B_size]
      rw [tr_no (big_no (by simp; omega)), tr_no (big_no (by simp; omega)), tr_ret]
      simp [jn, litP, th, sLight])
    (fun a _ => by
      have l1 := Tx_len a.2.1
      have l2 := Tx_len a.2.2.1
      have l3 := Tx_len a.2.2.2
      have l4 := Wx_len a.1
      simp [jn, litP, sLight, tx3]
      omega) s.2.2.1.length 0 rounds u (by omega) (rounds_gt (by omega)) (by omega)
  rw [List.drop_zero, ← flat_map] at key
  exact key

theorem cels_text (s : ScT) (h : ∀ c ∈ s.2.2.2.2.1, in3 c 0 67108863 = true) (hl : s.2.2.2.2.1.length ≤ 300) (u : List UInt8) (hu : u.length ≤ 300000) :
    ref24_Print.l6 (s, B u, 0, ()) = some (.exit 6, s, B (u ++ flat (s.2.2.2.2.1.map celP)), (s.2.2.2.2.1.length : Int), ()) := by
  have key := app_loop (t := ref24_Print.t6) s s.2.2.2.2.1 (fun a => jn (celP a) ++ [10]) (e := .exit 6) (by simp)
    (fun u => by
      unfold ref24_Print.t6
      dsimp only
      rw [tr_no (by simp), tr_ret])
    (fun k hk u hu => by
      have h1 : in3T s.2.2.2.2.1[k] := in3T_of (h _ (List.getElem_mem hk)) (by omega) (by omega)
      have l1 := th_len s.2.2.2.2.1[k]
      have hm : ByteArray.mk #[99, 101, 108, 108] = B [99, 101, 108, 108] := rfl
      have hW : W ((k : Int) + 1) = ((k + 1 : Nat) : Int) := by rw [W_id (by omega) (by omega)]; omega
      unfold ref24_Print.t6
      dsimp only
      simp only [hm, B10, hW, B_app, B_size]
      rw [tr_yes (decide_eq_true (by omega)), tr_no (big_no (by simp; omega)), tr_opt, lget_nat s.2.2.2.2.1 hk, Option.bind_some, tr_opt, three_eq h1, Option.bind_some]
      simp only [B_app, B_size]
      rw [tr_no (big_no (by simp; omega)), tr_no (big_no (by simp; omega)), tr_ret]
      simp [jn, celP, th, sCell])
    (fun a _ => by
      have l1 := Tx_len a.1
      have l2 := Tx_len a.2.1
      have l3 := Tx_len a.2.2
      simp [jn, celP, sCell, tx3]
      omega) s.2.2.2.2.1.length 0 rounds u (by omega) (rounds_gt (by omega)) (by omega)
  rw [List.drop_zero, ← flat_map] at key
  exact key
end Go.Proofs.Pen

namespace Go.Proofs.Pen
open Go Go.Proofs

theorem flatJ_len (b : Nat) : ∀ l : List LineT, (∀ x ∈ l, (jn x).length ≤ b) → (flat l).length ≤ l.length * (b + 1)
  | [], _ => by simp [flat]
  | x :: l, h => by
    have h1 := flatJ_len b l (fun y hy => h y (by simp [hy]))
    have h2 := h x (by simp)
    have e : flat (x :: l) = jn x ++ [10] ++ flat l := by simp [flat]
    have e2 : (l.length + 1) * (b + 1) = l.length * (b + 1) + (b + 1) := Nat.succ_mul _ _
    rw [e]
    simp only [List.length_append, List.length_cons, List.length_nil]
    omega
theorem three_len (p : W3) : (((tx3 p).flatMap fun w => 32 :: w)).length ≤ 69 := th_len p
theorem matP_len (m : MatT) : (jn (matP m)).length ≤ 300 := by
  have l1 := three_len m.1
  have l2 := three_len m.2.1
  have l3 := Tx_len m.2.2
  simp only [jn, matP, sMat, List.flatMap_append, List.length_append, List.flatMap_cons, List.flatMap_nil, List.length_cons, List.length_nil, List.append_nil]
  omega
theorem triP_len (m : TriT) : (jn (triP m)).length ≤ 300 := by
  have l1 := three_len m.1
  have l2 := three_len m.2.1
  have l3 := three_len m.2.2.1
  have l4 := Wx_len m.2.2.2
  simp only [jn, triP, sTri, List.flatMap_append, List.length_append, List.flatMap_cons, List.length_cons, List.length_nil]
  omega
theorem litP_len (m : LitT) : (jn (litP m)).length ≤ 300 := by
  have l1 := three_len m.2
  have l4 := Wx_len m.1
  simp only [jn, litP, sLight, List.length_append, List.flatMap_cons, List.length_cons, List.length_nil]
  omega
theorem celP_len (m : W3) : (jn (celP m)).length ≤ 300 := by
  have l1 := three_len m
  simp only [jn, celP, sCell, List.length_append, List.length_cons, List.length_nil]
  omega
theorem map_len {α : Type} (f : α → LineT) (h : ∀ a, (jn (f a)).length ≤ 300) (l : List α) : (flat (l.map f)).length ≤ l.length * 301 := by
  have := flatJ_len 300 (l.map f) (fun x hx => by obtain ⟨a, _, rfl⟩ := List.mem_map.1 hx; exact h a)
  rw [List.length_map] at this
  exact this

theorem Print_eq (s : ScT) (hs : okS s) (hl : s.1.length ≤ 40 ∧ s.2.1.length ≤ 60 ∧ s.2.2.1.length ≤ 60 ∧ s.2.2.2.2.1.length ≤ 200) : ref24_Print s = some (B (flat (PL s))) := by
  obtain ⟨hb, hm, ht, hli, _, hz, hc, hca⟩ := hs
  obtain ⟨⟨c1, c2, c3, c4, c5, c6⟩, hk, hh0, hh1⟩ := camG_in hca
  have hb := (bigB_false.1 hb)
  obtain ⟨x1, x2, x3, x4⟩ := hl
  have n1 := map_len matP matP_len s.1
  have n2 := map_len triP triP_len s.2.1
  have n3 := map_len litP litP_len s.2.2.1
  have n4 := map_len celP celP_len s.2.2.2.2.1
  have n5 := Wx_len s.2.2.2.1
  have n6 := Wx_len s.2.2.2.2.2.2.1
  have n7 := Tx_len s.2.2.2.2.2.2.2
  have q1 := th_len s.2.2.2.2.2.1.1
  have q2 := th_len s.2.2.2.2.2.1.2.1
  have q3 := th_len s.2.2.2.2.2.1.2.2.1
  have q4 := Tx_len s.2.2.2.2.2.1.2.2.2.1
  have q5 := Tx_len s.2.2.2.2.2.1.2.2.2.2.1
  have q6 := Tx_len s.2.2.2.2.2.1.2.2.2.2.2
  have hsky : ByteArray.mk #[115, 107, 121, 32] = B [115, 107, 121, 32] := rfl
  have hcam : ByteArray.mk #[99, 97, 109, 101, 114, 97] = B [99, 97, 109, 101, 114, 97] := rfl
  have hfil : ByteArray.mk #[102, 105, 108, 116, 101, 114, 32] = B [102, 105, 108, 116, 101, 114, 32] := rfl
  have hnil : ByteArray.mk #[] = B [] := rfl
  have e1 : ref24_Print s = (ref24_Print.t s).run := rfl
  rw [e1]
  unfold ref24_Print.t
  simp only [hsky, hcam, hfil, hnil, B32, B10]
  rw [tr_opt, mats_text s hm (by omega) [] (by simp), Option.bind_some]
  dsimp only
  rw [tr_yes (b := exEq (Ex.exit 0) (Ex.exit 0)) rfl, tr_opt, tris_text s (by omega) ht (by omega) _ (by simp; omega), Option.bind_some]
  dsimp only
  rw [tr_yes (b := exEq (Ex.exit 2) (Ex.exit 2)) rfl, tr_opt, lits_text s (by omega) hli (by omega) _ (by simp; omega), Option.bind_some]
  dsimp only
  rw [tr_yes (b := exEq (Ex.exit 4) (Ex.exit 4)) rfl]
  by_cases h0 : 0 < s.2.2.2.1
  · rw [tr_yes (decide_eq_true (by omega))]
    simp only [B_app, B_size]
    rw [tr_no (big_no (by simp; omega)), tr_opt, Wx_eq (by omega) (by omega), Option.bind_some]
    simp only [B_app, B_size]
    rw [tr_no (big_no (by simp; omega)), tr_no (big_no (by simp; omega)), tr_opt, cels_text s hc (by omega) _ (by simp; omega), Option.bind_some]
    dsimp only
    simp only [B_app, B_size]
    rw [tr_yes (b := exEq (Ex.exit 6) (Ex.exit 6)) rfl, tr_no (big_no (by simp; omega)), tr_opt, three_eq c1, Option.bind_some]
    simp only [B_app, B_size]
    rw [tr_no (big_no (by simp; omega)), tr_opt, three_eq c2, Option.bind_some]
    simp only [B_app, B_size]
    rw [tr_no (big_no (by simp; omega)), tr_opt, three_eq c3, Option.bind_some]
    simp only [B_app, B_size]
    rw [tr_no (big_no (by simp; omega)), tr_no (big_no (by simp; omega)), tr_opt, txt1_eq c4.1 c4.2, Option.bind_some]
    simp only [B_app, B_size]
    rw [tr_no (big_no (by simp; omega)), tr_no (big_no (by simp; omega)), tr_opt, txt1_eq c5.1 c5.2, Option.bind_some]
    simp only [B_app, B_size]
    rw [tr_no (big_no (by simp; omega)), tr_no (big_no (by simp; omega)), tr_opt, txt1_eq c6.1 c6.2, Option.bind_some]
    simp only [B_app, B_size]
    rw [tr_no (big_no (by simp; omega)), tr_no (big_no (by simp; omega)), tr_no (big_no (by simp; omega)), tr_opt, Wx_eq (by omega) (by omega), Option.bind_some]
    simp only [B_app, B_size]
    rw [tr_no (big_no (by simp; omega)), tr_no (big_no (by simp; omega)), tr_opt, txt1_eq (by omega) (by omega), Option.bind_some]
    simp only [B_app, B_size]
    rw [tr_no (big_no (by simp; omega)), tr_no (big_no (by simp; omega)), tr_ret]
    simp [PL, skyP, h0, flat, jn, camP, filP, th, sSky, sCam, sFil]
  · rw [tr_no (decide_eq_false (by omega)), tr_opt, cels_text s hc (by omega) _ (by simp; omega), Option.bind_some]
    dsimp only
    simp only [B_app, B_size]
    rw [tr_yes (b := exEq (Ex.exit 6) (Ex.exit 6)) rfl, tr_no (big_no (by simp; omega)), tr_opt, three_eq c1, Option.bind_some]
    simp only [B_app, B_size]
    rw [tr_no (big_no (by simp; omega)), tr_opt, three_eq c2, Option.bind_some]
    simp only [B_app, B_size]
    rw [tr_no (big_no (by simp; omega)), tr_opt, three_eq c3, Option.bind_some]
    simp only [B_app, B_size]
    rw [tr_no (big_no (by simp; omega)), tr_no (big_no (by simp; omega)), tr_opt, txt1_eq c4.1 c4.2, Option.bind_some]
    simp only [B_app, B_size]
    rw [tr_no (big_no (by simp; omega)), tr_no (big_no (by simp; omega)), tr_opt, txt1_eq c5.1 c5.2, Option.bind_some]
    simp only [B_app, B_size]
    rw [tr_no (big_no (by simp; omega)), tr_no (big_no (by simp; omega)), tr_opt, txt1_eq c6.1 c6.2, Option.bind_some]
    simp only [B_app, B_size]
    rw [tr_no (big_no (by simp; omega)), tr_no (big_no (by simp; omega)), tr_no (big_no (by simp; omega)), tr_opt, Wx_eq (by omega) (by omega), Option.bind_some]
    simp only [B_app, B_size]
    rw [tr_no (big_no (by simp; omega)), tr_no (big_no (by simp; omega)), tr_opt, txt1_eq (by omega) (by omega), Option.bind_some]
    simp only [B_app, B_size]
    rw [tr_no (big_no (by simp; omega)), tr_no (big_no (by simp; omega)), tr_ret]
    simp [PL, skyP, h0, flat, jn, camP, filP, th, sCam, sFil]
end Go.Proofs.Pen

namespace Go.Proofs.Pen
open Go Go.Proofs

def wordG (w : List UInt8) : Prop := w ≠ [] ∧ ∀ b ∈ w, isB b = false ∧ b ≠ 35 ∧ b ≠ 10
def lineG (l : LineT) : Prop := wordG l.1 ∧ ∀ w ∈ l.2, wordG w

theorem wd_word : ∀ (w l cur : List UInt8), (∀ b ∈ w, isB b = false) → wd (w ++ l) cur = wd l (cur ++ w)
  | [], l, cur, _ => by simp
  | b :: w, l, cur, h => by
    have hb := h b (by simp)
    rw [List.cons_append, wd, if_neg (by simp [hb]), wd_word w l (cur ++ [b]) (fun x hx => h x (by simp [hx]))]
    simp
theorem blank32 : isB 32 = true := by decide
theorem wd_words : ∀ (l : List (List UInt8)) (cur : List UInt8), cur ≠ [] → (∀ w ∈ l, wordG w) → wd (l.flatMap fun w => 32 :: w) cur = cur :: l
  | [], cur, hc, _ => by simp [wd, hc]
  | w :: l, cur, hc, h => by
    have hw := h w (by simp)
    have e : ((w :: l).flatMap fun w => 32 :: w) = 32 :: (w ++ l.flatMap fun w => 32 :: w) := by simp
    rw [e, wd, if_pos blank32, if_neg hc, wd_word _ _ _ (fun b hb => (hw.2 b hb).1), List.nil_append, wd_words l w hw.1 (fun x hx => h x (by simp [hx]))]
theorem wd_jn {l : LineT} (h : lineG l) : wd (jn l) [] = l.1 :: l.2 := by
  unfold jn
  rw [wd_word _ _ _ (fun b hb => (h.1.2 b hb).1), List.nil_append, wd_words _ _ h.1.1 h.2]
theorem jn_no {l : LineT} (h : lineG l) {b : UInt8} (hb : b = 35 ∨ b = 10) : b ∉ jn l := by
  intro hm
  unfold jn at hm
  rcases List.mem_append.1 hm with hm | hm
  · have := (h.1.2 b hm).2
    rcases hb with rfl | rfl <;> simp_all
  · obtain ⟨w, hw, hm⟩ := List.mem_flatMap.1 hm
    rcases List.mem_cons.1 hm with rfl | hm
    · rcases hb with hb | hb <;> revert hb <;> decide
    · have := ((h.2 w hw).2 b hm).2
      rcases hb with rfl | rfl <;> simp_all
def lws (l : LineT) : List ByteArray := (l.1 :: l.2).map B
theorem ws_jn {l : LineT} (h : lineG l) : ws (jn l) = lws l := by
  unfold ws
  rw [tw_none (jn_no h (.inl rfl)), wd_jn h]
  rfl
theorem ws_nil : ws [] = [] := by simp [ws, tw, wd]
def lwd (t : List (List UInt8)) : List (List ByteArray) := (t.map ws).filter fun w => !(w.length == 0)
theorem ln_words : ∀ (t : List (List UInt8)) (k : Nat), (ln t k).map (·.2) = lwd t
  | [], _ => rfl
  | x :: t, k => by
    have ih := ln_words t (k + 1)
    rw [ln]
    unfold lwd at ih ⊢
    by_cases h : (ws x).length = 0
    · rw [if_pos h, ih, List.map_cons, List.filter_cons_of_neg (by simp [h])]
    · rw [if_neg h, List.map_cons, ih, List.map_cons, List.filter_cons_of_pos (by simp [h])]
theorem lwd_cons (x : List UInt8) (t : List (List UInt8)) : lwd (x :: t) = if (ws x).length = 0 then lwd t else ws x :: lwd t := by
  unfold lwd
  split
  · rename_i h; rw [List.map_cons, List.filter_cons_of_neg (by simp [h])]
  · rename_i h; rw [List.map_cons, List.filter_cons_of_pos (by simp [h])]
end Go.Proofs.Pen

namespace Go.Proofs.Pen
open Go Go.Proofs

theorem dg_plain {d : Nat} (h : d < 10) : isB (dg d) = false ∧ dg d ≠ 35 ∧ dg d ≠ 10 := by
  have h1 := dg_ne h (c := 32) (by decide)
  have h2 := dg_ne h (c := 9) (by decide)
  exact ⟨by simp [isB, h1, h2], dg_ne h (by decide), dg_ne h (by decide)⟩
theorem dgs_plain {f n : Nat} {b : UInt8} (h : b ∈ dgs f n) : isB b = false ∧ b ≠ 35 ∧ b ≠ 10 := by
  obtain ⟨d, hd, rfl⟩ := mem_dgs h
  exact dg_plain hd
theorem Wx_good (k : Int) : wordG (Wx k) := by
  refine ⟨?_, fun b hb => dgs_plain hb⟩
  obtain ⟨d, l, _, e⟩ := dgs_ne (f := 9) (n := k.toNat)
  unfold Wx
  rw [e]
  simp
theorem Tx_good (k : Int) : wordG (Tx k) := by
  constructor
  · obtain ⟨d, l, _, e⟩ := dgs_ne (f := 9) (n := k.natAbs / 1024)
    unfold Tx Nx
    rw [e]
    simp
  · intro b hb
    unfold Tx Nx at hb
    rcases List.mem_append.1 hb with hb | hb
    · split at hb
      · have : b = 45 := by simpa using hb
        subst this; decide
      · simp at hb
    · rcases List.mem_append.1 hb with hb | hb
      · exact dgs_plain hb
      · split at hb
        · simp at hb
        · rcases List.mem_cons.1 hb with rfl | hb
          · decide
          · unfold fx at hb
            obtain ⟨d, hd, rfl⟩ := List.mem_map.1 hb
            exact dg_plain (fr_lt 10 _ (Nat.mod_lt _ (by decide)) d hd)
theorem tx3_good (p : W3) : ∀ w ∈ tx3 p, wordG w := by
  intro w hw
  simp only [tx3, List.mem_cons, List.not_mem_nil, or_false] at hw
  rcases hw with rfl | rfl | rfl <;> exact Tx_good _
theorem all_app {a b : List (List UInt8)} (ha : ∀ w ∈ a, wordG w) (hb : ∀ w ∈ b, wordG w) : ∀ w ∈ a ++ b, wordG w := fun w hw => (List.mem_append.1 hw).elim (ha w) (hb w)
theorem all_cons {x : List UInt8} {b : List (List UInt8)} (ha : wordG x) (hb : ∀ w ∈ b, wordG w) : ∀ w ∈ x :: b, wordG w := fun w hw => (List.mem_cons.1 hw).elim (fun e => e ▸ ha) (hb w)
theorem all_nil : ∀ w ∈ ([] : List (List UInt8)), wordG w := fun w hw => by simp at hw
theorem sMat_good : wordG sMat := ⟨by decide, by decide⟩
theorem sTri_good : wordG sTri := ⟨by decide, by decide⟩
theorem sLight_good : wordG sLight := ⟨by decide, by decide⟩
theorem sSky_good : wordG sSky := ⟨by decide, by decide⟩
theorem sCell_good : wordG sCell := ⟨by decide, by decide⟩
theorem sCam_good : wordG sCam := ⟨by decide, by decide⟩
theorem sFil_good : wordG sFil := ⟨by decide, by decide⟩
theorem PL_good (s : ScT) : ∀ l ∈ PL s, lineG l := by
  intro l hl
  simp only [PL, List.mem_append, List.mem_map, List.mem_cons, List.not_mem_nil, or_false] at hl
  rcases hl with ((((⟨m, _, rfl⟩ | ⟨m, _, rfl⟩) | ⟨m, _, rfl⟩) | hl) | ⟨m, _, rfl⟩) | rfl | rfl
  · exact ⟨sMat_good, all_app (all_app (tx3_good _) (tx3_good _)) (all_cons (Tx_good _) all_nil)⟩
  · exact ⟨sTri_good, all_cons (Wx_good _) (all_app (all_app (tx3_good _) (tx3_good _)) (tx3_good _))⟩
  · exact ⟨sLight_good, all_cons (Wx_good _) (tx3_good _)⟩
  · unfold skyP at hl
    split at hl
    · have : l = (sSky, [Wx s.2.2.2.1]) := by simpa using hl
      subst this
      exact ⟨sSky_good, all_cons (Wx_good _) all_nil⟩
    · simp at hl
  · exact ⟨sCell_good, tx3_good _⟩
  · exact ⟨sCam_good, all_app (all_app (all_app (tx3_good _) (tx3_good _)) (tx3_good _)) (all_cons (Tx_good _) (all_cons (Tx_good _) (all_cons (Tx_good _) all_nil)))⟩
  · exact ⟨sFil_good, all_cons (Wx_good _) (all_cons (Tx_good _) all_nil)⟩

theorem sp_flat : ∀ l : List LineT, (∀ x ∈ l, lineG x) → sp (flat l) [] = l.map jn ++ [[]]
  | [], _ => by simp [flat, sp]
  | x :: l, h => by
    have e : flat (x :: l) = jn x ++ 10 :: flat l := by simp [flat]
    rw [e, sp_first (jn_no (h x (by simp)) (.inr rfl)), sp_flat l (fun y hy => h y (by simp [hy]))]
    simp

theorem lwd_line {x : List UInt8} {w : List ByteArray} {t : List (List UInt8)} (h : ws x = w) (h0 : w.length ≠ 0) : lwd (x :: t) = w :: lwd t := by
  rw [lwd_cons, h, if_neg h0]
theorem lwd_none {x : List UInt8} {t : List (List UInt8)} (h : ws x = []) : lwd (x :: t) = lwd t := by
  rw [lwd_cons, h]
  rfl
theorem lws_pos (l : LineT) : (lws l).length ≠ 0 := by simp [lws]
end Go.Proofs.Pen

namespace Go.Proofs.Pen
open Go Go.Proofs

end Go.Proofs.Pen

namespace Go.Proofs.Pen
open Go Go.Proofs

theorem kv_Tx {k : Int} (h : inT k) : kv (B (Tx k)) = some k := by
  unfold kv
  rw [Number_back h.1 h.2]
theorem Wx_Tx {k : Int} (h : 0 ≤ k) : Wx k = Tx (1024 * k) := by
  obtain ⟨n, rfl⟩ : ∃ n : Nat, k = n := ⟨k.toNat, by omega⟩
  have e : ((1024 : Int) * (n : Int)).natAbs = 1024 * n := by omega
  unfold Wx Tx Nx
  rw [if_neg (by omega), e, if_pos (by omega), Nat.mul_div_cancel_left _ (by decide)]
  simp
theorem num_Tx {k : Int} (h : inT k) : num1 false (B (Tx k)) = some k := by
  unfold num1
  rw [kv_Tx h]
  rfl
theorem num_Wx {k : Int} (h : 0 ≤ k) (h1 : k ≤ 1000000) : num1 true (B (Wx k)) = some k := by
  unfold num1
  rw [Wx_Tx h, kv_Tx ⟨by omega, by omega⟩]
  simp
theorem nums_Tx (wh : Int) : ∀ (ks : List Int) (i : Nat), wh ≤ i → (∀ k ∈ ks, inT k) → nums wh i (ks.map fun k => B (Tx k)) = some ks
  | [], _, _, _ => rfl
  | k :: ks, i, h, hk => by
    rw [List.map_cons, nums, decide_eq_false (by omega), num_Tx (hk k (by simp))]
    dsimp only
    rw [nums_Tx wh ks (i + 1) (by omega) (fun x hx => hk x (by simp [hx]))]
theorem nums_Wx {k : Int} (h : 0 ≤ k) (h1 : k ≤ 1000000) (ks : List Int) (hk : ∀ k ∈ ks, inT k) : nums 1 0 (B (Wx k) :: ks.map fun k => B (Tx k)) = some (k :: ks) := by
  rw [nums, decide_eq_true (by decide), num_Wx h h1]
  dsimp only
  rw [nums_Tx 1 ks 1 (by decide) hk]

def rdS (s : ScT) (seen : List (ByteArray × Bool)) (n0 : Int) (w0 : List ByteArray) (L : List (Int × List ByteArray)) (i : Nat) : ScT × ErrD × (List MatT × List TriT × List LitT × Int × List W3 × CamT × Int × Int × List (ByteArray × Bool) × Int × List ByteArray × Unit) × List (Int × List ByteArray) × Int × Int × Unit :=
  (ZS, .nil, (s.1, s.2.1, s.2.2.1, s.2.2.2.1, s.2.2.2.2.1, s.2.2.2.2.2.1, s.2.2.2.2.2.2.1, s.2.2.2.2.2.2.2, seen, n0, w0, ()), L, (L.length : Int), (i : Int), ())

theorem mats_read (seen : List (ByteArray × Bool)) : ∀ (ms : List MatT) (done rest : List (Int × List ByteArray)) (L : List (Int × List ByteArray)) (s : ScT) (n0 : Int) (w0 : List ByteArray) (m : Nat),
    L = done ++ rest → L.length ≤ 6001 → (∀ x ∈ ms, matG x) → s.1.length + ms.length ≤ 6001 → (∃ r, rest.map (·.2) = ms.map (fun x => lws (matP x)) ++ r) →
    ∃ n1 w1, (iterT parse_Parse.t0 (ms.length + m) (rdS s seen n0 w0 L done.length)).run = (iterT parse_Parse.t0 m (rdS (s.1 ++ ms, s.2) seen n1 w1 L (done.length + ms.length))).run
  | [], done, rest, L, s, n0, w0, m, _, _, _, _, _ => ⟨n0, w0, by simp⟩
  | x :: ms, done, rest, L, s, n0, w0, m, hL, hn, hg, hs, ⟨r, hr⟩ => by
    cases rest with
    | nil => simp at hr
    | cons y rest =>
      simp only [List.map_cons, List.cons_append, List.cons.injEq] at hr
      obtain ⟨hy, hr⟩ := hr
      obtain ⟨num, w⟩ := y
      have hy : w = lws (matP x) := hy
      subst hy
      have hi : done.length < L.length := by rw [hL]; simp
      have hget : L[done.length] = (num, lws (matP x)) := by subst hL; simp
      obtain ⟨h1, h2, h3⟩ := matG_in (hg x (by simp))
      have hk : nums 0 0 ([x.1.1, x.1.2.1, x.1.2.2, x.2.1.1, x.2.1.2.1, x.2.1.2.2, x.2.2].map fun k => B (Tx k)) = some [x.1.1, x.1.2.1, x.1.2.2, x.2.1.1, x.2.1.2.1, x.2.1.2.2, x.2.2] := nums_Tx 0 _ 0 (by decide) (by
        intro k hk
        simp only [List.mem_cons, List.not_mem_nil, or_false] at hk
        rcases hk with rfl | rfl | rfl | rfl | rfl | rfl | rfl
        · exact h1.1
        · exact h1.2.1
        · exact h1.2.2
        · exact h2.1
        · exact h2.2.1
        · exact h2.2.2
        · exact h3)
      have st := code_mat s seen n0 w0 L done.length hi hn num _ hget _ _ _ _ _ _ _ hk (by simp at hs; omega)
      obtain ⟨n1, w1, ih⟩ := mats_read seen ms (done ++ [(num, lws (matP x))]) rest L (s.1 ++ [x], s.2) num (lws (matP x)) m (by rw [hL]; simp) hn (fun z hz => hg z (by simp [hz])) (by simp at hs ⊢; omega) ⟨r, hr⟩
      refine ⟨n1, w1, ?_⟩
      have e : (x :: ms).length + m = (ms.length + m) + 1 := by simp; omega
      rw [e]
      have st' : (parse_Parse.t0 (rdS s seen n0 w0 L done.length)).run = some (.normal, rdS (s.1 ++ [x], s.2) seen num (lws (matP x)) L (done.length + 1)) := st
      rw [iter_go st']
      have hd : (done ++ [(num, lws (matP x))]).length = done.length + 1 := by simp
      rw [hd] at ih
      rw [ih]
      have e1 : (s.1 ++ [x]) ++ ms = s.1 ++ x :: ms := by simp
      have e2 : done.length + 1 + ms.length = done.length + (x :: ms).length := by simp; omega
      dsimp only
      rw [e1, e2]
end Go.Proofs.Pen

namespace Go.Proofs.Pen
open Go Go.Proofs

theorem tris_read (seen : List (ByteArray × Bool)) {n : Int} : ∀ (ms : List TriT) (done rest : List (Int × List ByteArray)) (L : List (Int × List ByteArray)) (s : ScT) (n0 : Int) (w0 : List ByteArray) (m : Nat),
    L = done ++ rest → L.length ≤ 6001 → (∀ x ∈ ms, triG n x) → n ≤ 1000000 → s.2.1.length + ms.length ≤ 6001 → (∃ r, rest.map (·.2) = ms.map (fun x => lws (triP x)) ++ r) →
    ∃ n1 w1, (iterT parse_Parse.t0 (ms.length + m) (rdS s seen n0 w0 L done.length)).run = (iterT parse_Parse.t0 m (rdS (s.1, s.2.1 ++ ms, s.2.2) seen n1 w1 L (done.length + ms.length))).run
  | [], done, rest, L, s, n0, w0, m, _, _, _, _, _, _ => ⟨n0, w0, by simp⟩
  | x :: ms, done, rest, L, s, n0, w0, m, hL, hn, hg, hnn, hs, ⟨r, hr⟩ => by
    cases rest with
    | nil => simp at hr
    | cons y rest =>
      simp only [List.map_cons, List.cons_append, List.cons.injEq] at hr
      obtain ⟨hy, hr⟩ := hr
      obtain ⟨num, w⟩ := y
      have hy : w = lws (triP x) := hy
      subst hy
      have hi : done.length < L.length := by rw [hL]; simp
      have hget : L[done.length] = (num, lws (triP x)) := by subst hL; simp
      have hgx := hg x (by simp)
      obtain ⟨h1, h2, h3⟩ := triG_in hgx
      have hk : nums 1 0 (B (Wx x.2.2.2) :: [x.1.1, x.1.2.1, x.1.2.2, x.2.1.1, x.2.1.2.1, x.2.1.2.2, x.2.2.1.1, x.2.2.1.2.1, x.2.2.1.2.2].map fun k => B (Tx k)) = some (x.2.2.2 :: [x.1.1, x.1.2.1, x.1.2.2, x.2.1.1, x.2.1.2.1, x.2.1.2.2, x.2.2.1.1, x.2.2.1.2.1, x.2.2.1.2.2]) := nums_Wx hgx.1 (by have := hgx.2.1; omega) _ (by
        intro k hk
        simp only [List.mem_cons, List.not_mem_nil, or_false] at hk
        rcases hk with rfl | rfl | rfl | rfl | rfl | rfl | rfl | rfl | rfl
        · exact h1.1
        · exact h1.2.1
        · exact h1.2.2
        · exact h2.1
        · exact h2.2.1
        · exact h2.2.2
        · exact h3.1
        · exact h3.2.1
        · exact h3.2.2
      )
      have st := code_tri s seen n0 w0 L done.length hi hn num _ hget _ _ _ _ _ _ _ _ _ _ hk (by simp at hs; omega)
      obtain ⟨n1, w1, ih⟩ := tris_read seen ms (done ++ [(num, lws (triP x))]) rest L (s.1, s.2.1 ++ [x], s.2.2) num (lws (triP x)) m (by rw [hL]; simp) hn (fun z hz => hg z (by simp [hz])) hnn (by simp at hs ⊢; omega) ⟨r, hr⟩
      refine ⟨n1, w1, ?_⟩
      have e : (x :: ms).length + m = (ms.length + m) + 1 := by simp; omega
      rw [e]
      have st' : (parse_Parse.t0 (rdS s seen n0 w0 L done.length)).run = some (.normal, rdS (s.1, s.2.1 ++ [x], s.2.2) seen num (lws (triP x)) L (done.length + 1)) := st
      rw [iter_go st']
      have hd : (done ++ [(num, lws (triP x))]).length = done.length + 1 := by simp
      rw [hd] at ih
      rw [ih]
      have e1 : (s.2.1 ++ [x]) ++ ms = s.2.1 ++ x :: ms := by simp
      have e2 : done.length + 1 + ms.length = done.length + (x :: ms).length := by simp; omega
      dsimp only
      rw [e1, e2]
theorem lits_read (seen : List (ByteArray × Bool)) {n : Int} : ∀ (ms : List LitT) (done rest : List (Int × List ByteArray)) (L : List (Int × List ByteArray)) (s : ScT) (n0 : Int) (w0 : List ByteArray) (m : Nat),
    L = done ++ rest → L.length ≤ 6001 → (∀ x ∈ ms, litG n x) → n ≤ 1000000 → s.2.2.1.length + ms.length ≤ 6001 → (∃ r, rest.map (·.2) = ms.map (fun x => lws (litP x)) ++ r) →
    ∃ n1 w1, (iterT parse_Parse.t0 (ms.length + m) (rdS s seen n0 w0 L done.length)).run = (iterT parse_Parse.t0 m (rdS (s.1, s.2.1, s.2.2.1 ++ ms, s.2.2.2) seen n1 w1 L (done.length + ms.length))).run
  | [], done, rest, L, s, n0, w0, m, _, _, _, _, _, _ => ⟨n0, w0, by simp⟩
  | x :: ms, done, rest, L, s, n0, w0, m, hL, hn, hg, hnn, hs, ⟨r, hr⟩ => by
    cases rest with
    | nil => simp at hr
    | cons y rest =>
      simp only [List.map_cons, List.cons_append, List.cons.injEq] at hr
      obtain ⟨hy, hr⟩ := hr
      obtain ⟨num, w⟩ := y
      have hy : w = lws (litP x) := hy
      subst hy
      have hi : done.length < L.length := by rw [hL]; simp
      have hget : L[done.length] = (num, lws (litP x)) := by subst hL; simp
      have hgx := hg x (by simp)
      have h1 : in3T x.2 := in3T_of hgx.2.2 (by omega) (by omega)
      have hk : nums 1 0 (B (Wx x.1) :: [x.2.1, x.2.2.1, x.2.2.2].map fun k => B (Tx k)) = some (x.1 :: [x.2.1, x.2.2.1, x.2.2.2]) := nums_Wx hgx.1 (by have := hgx.2.1; omega) _ (by
        intro k hk
        simp only [List.mem_cons, List.not_mem_nil, or_false] at hk
        rcases hk with rfl | rfl | rfl
        · exact h1.1
        · exact h1.2.1
        · exact h1.2.2
      )
      have st := code_light s seen n0 w0 L done.length hi hn num _ hget _ _ _ _ hk (by simp at hs; omega)
      obtain ⟨n1, w1, ih⟩ := lits_read seen ms (done ++ [(num, lws (litP x))]) rest L (s.1, s.2.1, s.2.2.1 ++ [x], s.2.2.2) num (lws (litP x)) m (by rw [hL]; simp) hn (fun z hz => hg z (by simp [hz])) hnn (by simp at hs ⊢; omega) ⟨r, hr⟩
      refine ⟨n1, w1, ?_⟩
      have e : (x :: ms).length + m = (ms.length + m) + 1 := by simp; omega
      rw [e]
      have st' : (parse_Parse.t0 (rdS s seen n0 w0 L done.length)).run = some (.normal, rdS (s.1, s.2.1, s.2.2.1 ++ [x], s.2.2.2) seen num (lws (litP x)) L (done.length + 1)) := st
      rw [iter_go st']
      have hd : (done ++ [(num, lws (litP x))]).length = done.length + 1 := by simp
      rw [hd] at ih
      rw [ih]
      have e1 : (s.2.2.1 ++ [x]) ++ ms = s.2.2.1 ++ x :: ms := by simp
      have e2 : done.length + 1 + ms.length = done.length + (x :: ms).length := by simp; omega
      dsimp only
      rw [e1, e2]
theorem cels_read (seen : List (ByteArray × Bool)) : ∀ (ms : List W3) (done rest : List (Int × List ByteArray)) (L : List (Int × List ByteArray)) (s : ScT) (n0 : Int) (w0 : List ByteArray) (m : Nat),
    L = done ++ rest → L.length ≤ 6001 → (∀ x ∈ ms, in3 x 0 67108863 = true) → s.2.2.2.2.1.length + ms.length ≤ 6001 → (∃ r, rest.map (·.2) = ms.map (fun x => lws (celP x)) ++ r) →
    ∃ n1 w1, (iterT parse_Parse.t0 (ms.length + m) (rdS s seen n0 w0 L done.length)).run = (iterT parse_Parse.t0 m (rdS (s.1, s.2.1, s.2.2.1, s.2.2.2.1, s.2.2.2.2.1 ++ ms, s.2.2.2.2.2) seen n1 w1 L (done.length + ms.length))).run
  | [], done, rest, L, s, n0, w0, m, _, _, _, _, _ => ⟨n0, w0, by simp⟩
  | x :: ms, done, rest, L, s, n0, w0, m, hL, hn, hg, hs, ⟨r, hr⟩ => by
    cases rest with
    | nil => simp at hr
    | cons y rest =>
      simp only [List.map_cons, List.cons_append, List.cons.injEq] at hr
      obtain ⟨hy, hr⟩ := hr
      obtain ⟨num, w⟩ := y
      have hy : w = lws (celP x) := hy
      subst hy
      have hi : done.length < L.length := by rw [hL]; simp
      have hget : L[done.length] = (num, lws (celP x)) := by subst hL; simp
      have hgx := hg x (by simp)
      have h1 : in3T x := in3T_of hgx (by omega) (by omega)
      have hk : nums 0 0 ([x.1, x.2.1, x.2.2].map fun k => B (Tx k)) = some [x.1, x.2.1, x.2.2] := nums_Tx 0 _ 0 (by decide) (by
        intro k hk
        simp only [List.mem_cons, List.not_mem_nil, or_false] at hk
        rcases hk with rfl | rfl | rfl
        · exact h1.1
        · exact h1.2.1
        · exact h1.2.2
      )
      have st := code_cell s seen n0 w0 L done.length hi hn num _ hget _ _ _ hk (by simp at hs; omega)
      obtain ⟨n1, w1, ih⟩ := cels_read seen ms (done ++ [(num, lws (celP x))]) rest L (s.1, s.2.1, s.2.2.1, s.2.2.2.1, s.2.2.2.2.1 ++ [x], s.2.2.2.2.2) num (lws (celP x)) m (by rw [hL]; simp) hn (fun z hz => hg z (by simp [hz])) (by simp at hs ⊢; omega) ⟨r, hr⟩
      refine ⟨n1, w1, ?_⟩
      have e : (x :: ms).length + m = (ms.length + m) + 1 := by simp; omega
      rw [e]
      have st' : (parse_Parse.t0 (rdS s seen n0 w0 L done.length)).run = some (.normal, rdS (s.1, s.2.1, s.2.2.1, s.2.2.2.1, s.2.2.2.2.1 ++ [x], s.2.2.2.2.2) seen num (lws (celP x)) L (done.length + 1)) := st
      rw [iter_go st']
      have hd : (done ++ [(num, lws (celP x))]).length = done.length + 1 := by simp
      rw [hd] at ih
      rw [ih]
      have e1 : (s.2.2.2.2.1 ++ [x]) ++ ms = s.2.2.2.2.1 ++ x :: ms := by simp
      have e2 : done.length + 1 + ms.length = done.length + (x :: ms).length := by simp; omega
      dsimp only
      rw [e1, e2]
end Go.Proofs.Pen

namespace Go.Proofs.Pen
open Go Go.Proofs

theorem sky_read (s : ScT) (seen : List (ByteArray × Bool)) (hse : flagM seen cSky = false) (done rest : List (Int × List ByteArray)) (L : List (Int × List ByteArray)) (n0 : Int) (w0 : List ByteArray) (m : Nat) (num z : Int)
    (hL : L = done ++ (num, lws (sSky, [Wx z])) :: rest) (hn : L.length ≤ 6001) (h0 : 0 ≤ z) (h1 : z ≤ 1000000) :
    ∃ n1 w1, (iterT parse_Parse.t0 (m + 1) (rdS s seen n0 w0 L done.length)).run = (iterT parse_Parse.t0 m (rdS (s.1, s.2.1, s.2.2.1, z, s.2.2.2.2) (mset seen cSky true) n1 w1 L (done.length + 1))).run := by
  have hi : done.length < L.length := by rw [hL]; simp
  have hget : L[done.length] = (num, lws (sSky, [Wx z])) := by subst hL; simp
  have hk : nums 1 0 (B (Wx z) :: ([] : List Int).map fun k => B (Tx k)) = some [z] := nums_Wx h0 h1 [] (by simp)
  have st := code_sky s seen n0 w0 L done.length hi hn num _ hget _ hk hse
  refine ⟨num, lws (sSky, [Wx z]), ?_⟩
  have st' : (parse_Parse.t0 (rdS s seen n0 w0 L done.length)).run = some (.normal, rdS (s.1, s.2.1, s.2.2.1, z, s.2.2.2.2) (mset seen cSky true) num (lws (sSky, [Wx z])) L (done.length + 1)) := st
  rw [iter_go st']

theorem cam_read (s : ScT) (seen : List (ByteArray × Bool)) (hse : flagM seen cCam = false) (done rest : List (Int × List ByteArray)) (L : List (Int × List ByteArray)) (n0 : Int) (w0 : List ByteArray) (m : Nat) (num : Int) (c : CamT)
    (hL : L = done ++ (num, lws (camP c)) :: rest) (hn : L.length ≤ 6001) (h1 : in3T c.1) (h2 : in3T c.2.1) (h3 : in3T c.2.2.1) (h4 : inT c.2.2.2.1) (h5 : inT c.2.2.2.2.1) (h6 : inT c.2.2.2.2.2) :
    ∃ n1 w1, (iterT parse_Parse.t0 (m + 1) (rdS s seen n0 w0 L done.length)).run = (iterT parse_Parse.t0 m (rdS (s.1, s.2.1, s.2.2.1, s.2.2.2.1, s.2.2.2.2.1, c, s.2.2.2.2.2.2) (mset seen cCam true) n1 w1 L (done.length + 1))).run := by
  have hi : done.length < L.length := by rw [hL]; simp
  have hget : L[done.length] = (num, lws (camP c)) := by subst hL; simp
  have hk : nums 0 0 ([c.1.1, c.1.2.1, c.1.2.2, c.2.1.1, c.2.1.2.1, c.2.1.2.2, c.2.2.1.1, c.2.2.1.2.1, c.2.2.1.2.2, c.2.2.2.1, c.2.2.2.2.1, c.2.2.2.2.2].map fun k => B (Tx k)) = some [c.1.1, c.1.2.1, c.1.2.2, c.2.1.1, c.2.1.2.1, c.2.1.2.2, c.2.2.1.1, c.2.2.1.2.1, c.2.2.1.2.2, c.2.2.2.1, c.2.2.2.2.1, c.2.2.2.2.2] := nums_Tx 0 _ 0 (by decide) (by
    intro k hk
    simp only [List.mem_cons, List.not_mem_nil, or_false] at hk
    rcases hk with rfl | rfl | rfl | rfl | rfl | rfl | rfl | rfl | rfl | rfl | rfl | rfl
    · exact h1.1
    · exact h1.2.1
    · exact h1.2.2
    · exact h2.1
    · exact h2.2.1
    · exact h2.2.2
    · exact h3.1
    · exact h3.2.1
    · exact h3.2.2
    · exact h4
    · exact h5
    · exact h6)
  have st := code_camera s seen n0 w0 L done.length hi hn num _ hget _ _ _ _ _ _ _ _ _ _ _ _ hk hse
  refine ⟨num, lws (camP c), ?_⟩
  have st' : (parse_Parse.t0 (rdS s seen n0 w0 L done.length)).run = some (.normal, rdS (s.1, s.2.1, s.2.2.1, s.2.2.2.1, s.2.2.2.2.1, c, s.2.2.2.2.2.2) (mset seen cCam true) num (lws (camP c)) L (done.length + 1)) := st
  rw [iter_go st']

theorem fil_read (s : ScT) (seen : List (ByteArray × Bool)) (hse : flagM seen cFil = false) (done rest : List (Int × List ByteArray)) (L : List (Int × List ByteArray)) (n0 : Int) (w0 : List ByteArray) (m : Nat) (num k h : Int)
    (hL : L = done ++ (num, lws (filP k h)) :: rest) (hn : L.length ≤ 6001) (h0 : 0 ≤ k) (h1 : k ≤ 1000000) (h2 : inT h) :
    ∃ n1 w1, (iterT parse_Parse.t0 (m + 1) (rdS s seen n0 w0 L done.length)).run = (iterT parse_Parse.t0 m (rdS (s.1, s.2.1, s.2.2.1, s.2.2.2.1, s.2.2.2.2.1, s.2.2.2.2.2.1, k, h) (mset seen cFil true) n1 w1 L (done.length + 1))).run := by
  have hi : done.length < L.length := by rw [hL]; simp
  have hget : L[done.length] = (num, lws (filP k h)) := by subst hL; simp
  have hk : nums 1 0 (B (Wx k) :: [h].map fun k => B (Tx k)) = some [k, h] := nums_Wx h0 h1 [h] (by intro x hx; simp at hx; subst hx; exact h2)
  have st := code_filter s seen n0 w0 L done.length hi hn num _ hget _ _ hk hse
  refine ⟨num, lws (filP k h), ?_⟩
  have st' : (parse_Parse.t0 (rdS s seen n0 w0 L done.length)).run = some (.normal, rdS (s.1, s.2.1, s.2.2.1, s.2.2.2.1, s.2.2.2.2.1, s.2.2.2.2.2.1, k, h) (mset seen cFil true) num (lws (filP k h)) L (done.length + 1)) := st
  rw [iter_go st']
end Go.Proofs.Pen

namespace Go.Proofs.Pen
open Go Go.Proofs

theorem tail_read (s : ScT) (seen : List (ByteArray × Bool)) (hse : flagM seen cCam = false) (hsf : flagM seen cFil = false) (done A5 R5 : List (Int × List ByteArray)) (L : List (Int × List ByteArray)) (n0 : Int) (w0 : List ByteArray) (m : Nat)
    (cs : List W3) (c : CamT) (k h : Int) (hL : L = done ++ (A5 ++ R5)) (hn : L.length ≤ 6001) (hcs : ∀ x ∈ cs, in3 x 0 67108863 = true) (hl : s.2.2.2.2.1.length + cs.length ≤ 6001)
    (a5 : A5.map (·.2) = cs.map (fun x => lws (celP x))) (hR : R5.map (·.2) = [lws (camP c), lws (filP k h)])
    (h1 : in3T c.1) (h2 : in3T c.2.1) (h3 : in3T c.2.2.1) (h4 : inT c.2.2.2.1) (h5 : inT c.2.2.2.2.1) (h6 : inT c.2.2.2.2.2) (k0 : 0 ≤ k) (k1 : k ≤ 1000000) (hh : inT h) :
    ∃ n1 w1 y, (iterT parse_Parse.t0 (cs.length + (m + 1 + 1 + 1)) (rdS s seen n0 w0 L done.length)).run =
      some (.exit 0, ZS, .nil, (s.1, s.2.1, s.2.2.1, s.2.2.2.1, s.2.2.2.2.1 ++ cs, c, k, h, mset (mset seen cCam true) cFil true, n1, w1, ()), y) := by
  obtain ⟨p, q, r⟩ := cels_read seen cs done (A5 ++ R5) L s n0 w0 (m + 1 + 1 + 1) hL hn hcs hl ⟨R5.map (·.2), by rw [List.map_append, a5]⟩
  have l5 : A5.length = cs.length := by have := congrArg List.length a5; simpa using this
  match R5, hR with
  | [(u1, v1), (u2, v2)], hR =>
    simp only [List.map_cons, List.map_nil, List.cons.injEq, and_true] at hR
    obtain ⟨rfl, rfl⟩ := hR
    obtain ⟨p2, q2, r2⟩ := cam_read (s.1, s.2.1, s.2.2.1, s.2.2.2.1, s.2.2.2.2.1 ++ cs, s.2.2.2.2.2) seen hse (done ++ A5) [(u2, lws (filP k h))] L p q (m + 1 + 1) u1 c (by rw [hL]; simp) hn h1 h2 h3 h4 h5 h6
    have d2 : (done ++ A5).length = done.length + cs.length := by simp [l5]
    rw [d2] at r2
    obtain ⟨p3, q3, r3⟩ := fil_read (s.1, s.2.1, s.2.2.1, s.2.2.2.1, s.2.2.2.2.1 ++ cs, c, s.2.2.2.2.2.2) (mset seen cCam true) (by rw [flag_other seen (show cCam ≠ cFil by decide)]; exact hsf) (done ++ A5 ++ [(u1, lws (camP c))]) [] L p2 q2 (m + 1) u2 k h (by rw [hL]; simp) hn k0 k1 hh
    have d3 : (done ++ A5 ++ [(u1, lws (camP c))]).length = done.length + cs.length + 1 := by simp [l5]; omega
    rw [d3] at r3
    have hend : L.length = done.length + cs.length + 1 + 1 := by rw [hL]; simp [l5]; omega
    refine ⟨p3, q3, (L, (L.length : Int), ((done.length + cs.length + 1 + 1 : Nat) : Int), ()), ?_⟩
    rw [r]
    refine r2.trans (r3.trans ?_)
    refine iter_stop (by simp) ?_
    unfold parse_Parse.t0 rdS
    dsimp only
    rw [tr_no (decide_eq_false (by rw [hend]; omega)), tr_ret]
    simp only [List.take_length]
end Go.Proofs.Pen

namespace Go.Proofs.Pen
open Go Go.Proofs

theorem all_read (s : ScT) (hs : okS s) (hl : s.1.length ≤ 40 ∧ s.2.1.length ≤ 60 ∧ s.2.2.1.length ≤ 60 ∧ s.2.2.2.2.1.length ≤ 200) (L : List (Int × List ByteArray)) (hL : L.map (·.2) = (PL s).map lws) :
    ∃ seen n1 w1, flagM seen cCam = true ∧ ∃ y, (iterT parse_Parse.t0 rounds (rdS S0 [] 0 [] L 0)).run =
      some (.exit 0, ZS, .nil, (s.1, s.2.1, s.2.2.1, s.2.2.2.1, s.2.2.2.2.1, s.2.2.2.2.2.1, s.2.2.2.2.2.2.1, s.2.2.2.2.2.2.2, seen, n1, w1, ()), y) := by
  obtain ⟨hb, hm, ht, hli, _, hz, hc, hca⟩ := hs
  obtain ⟨⟨c1, c2, c3, c4, c5, c6⟩, hk, hh0, hh1⟩ := camG_in hca
  have hb := (bigB_false.1 hb)
  obtain ⟨x1, x2, x3, x4⟩ := hl
  have hP : (PL s).map lws = s.1.map (fun x => lws (matP x)) ++ (s.2.1.map (fun x => lws (triP x)) ++ (s.2.2.1.map (fun x => lws (litP x)) ++ ((skyP s.2.2.2.1).map lws ++ (s.2.2.2.2.1.map (fun x => lws (celP x)) ++ [lws (camP s.2.2.2.2.2.1), lws (filP s.2.2.2.2.2.2.1 s.2.2.2.2.2.2.2)])))) := by
    simp [PL, Function.comp_def]
  rw [hP] at hL
  obtain ⟨A1, R1, e1, a1, hL⟩ := List.map_eq_append_iff.1 hL
  obtain ⟨A2, R2, e2, a2, hL⟩ := List.map_eq_append_iff.1 hL
  obtain ⟨A3, R3, e3, a3, hL⟩ := List.map_eq_append_iff.1 hL
  obtain ⟨A4, R4, e4, a4, hL⟩ := List.map_eq_append_iff.1 hL
  obtain ⟨A5, R5, e5, a5, hL⟩ := List.map_eq_append_iff.1 hL
  have l1 : A1.length = s.1.length := by have := congrArg List.length a1; simpa using this
  have l2 : A2.length = s.2.1.length := by have := congrArg List.length a2; simpa using this
  have l3 : A3.length = s.2.2.1.length := by have := congrArg List.length a3; simpa using this
  have l5 : A5.length = s.2.2.2.2.1.length := by have := congrArg List.length a5; simpa using this
  have l6 : R5.length = 2 := by have := congrArg List.length hL; simpa using this
  have l4 : A4.length ≤ 1 := by
    have := congrArg List.length a4
    rw [List.length_map, List.length_map] at this
    unfold skyP at this
    split at this <;> simp only [List.length_cons, List.length_nil] at this <;> omega
  have hn : L.length ≤ 6001 := by subst e1 e2 e3 e4 e5; simp; omega
  have hr : 1000 < rounds := rounds_gt (by decide)
  obtain ⟨m, hmr⟩ : ∃ m, rounds = s.1.length + (s.2.1.length + (s.2.2.1.length + (A4.length + (s.2.2.2.2.1.length + (m + 1 + 1 + 1))))) := ⟨rounds - (s.1.length + (s.2.1.length + (s.2.2.1.length + (A4.length + (s.2.2.2.2.1.length + 3))))), by omega⟩
  rw [hmr]
  obtain ⟨p1, q1, r1⟩ := mats_read [] s.1 [] L L S0 0 [] (s.2.1.length + (s.2.2.1.length + (A4.length + (s.2.2.2.2.1.length + (m + 1 + 1 + 1))))) rfl hn hm (by simp [S0]; omega) ⟨R1.map (·.2), by rw [e1, List.map_append, a1]⟩
  have r1 : (iterT parse_Parse.t0 _ (rdS S0 [] 0 [] L 0)).run = _ := r1
  rw [r1]
  obtain ⟨p2, q2, r2⟩ := tris_read [] s.2.1 A1 R1 L (S0.1 ++ s.1, S0.2) p1 q1 (s.2.2.1.length + (A4.length + (s.2.2.2.2.1.length + (m + 1 + 1 + 1)))) e1 hn ht (by omega) (by simp [S0]; omega) ⟨R2.map (·.2), by rw [e2, List.map_append, a2]⟩
  rw [l1] at r2
  rw [show ([] : List (Int × List ByteArray)).length + s.1.length = s.1.length by simp, r2]
  obtain ⟨p3, q3, r3⟩ := lits_read [] s.2.2.1 (A1 ++ A2) R2 L ((S0.1 ++ s.1, S0.2.1 ++ s.2.1, S0.2.2)) p2 q2 (A4.length + (s.2.2.2.2.1.length + (m + 1 + 1 + 1))) (by rw [e1, e2]; simp) hn hli (by omega) (by simp [S0]; omega) ⟨R3.map (·.2), by rw [e3, List.map_append, a3]⟩
  rw [show (A1 ++ A2).length = s.1.length + s.2.1.length by simp [l1, l2]] at r3
  rw [r3]
  by_cases h0 : 0 < s.2.2.2.1
  · rw [skyP, if_pos h0] at a4
    obtain ⟨⟨u, v⟩, A4', eA, av, an⟩ := List.map_eq_cons_iff.1 a4
    have an := List.map_eq_nil_iff.1 an
    subst an
    have av : v = lws (sSky, [Wx s.2.2.2.1]) := av
    subst av
    subst eA
    · clear a4
      obtain ⟨p4, q4, r4⟩ := sky_read (S0.1 ++ s.1, S0.2.1 ++ s.2.1, S0.2.2.1 ++ s.2.2.1, S0.2.2.2) [] rfl (A1 ++ A2 ++ A3) R4 L p3 q3 (s.2.2.2.2.1.length + (m + 1 + 1 + 1)) u s.2.2.2.1 (by rw [e1, e2, e3, e4]; simp) hn (by omega) (by omega)
      have d4 : (A1 ++ A2 ++ A3).length = s.1.length + s.2.1.length + s.2.2.1.length := by simp [l1, l2, l3]; omega
      rw [d4] at r4
      obtain ⟨p5, q5, y, r5⟩ := tail_read (S0.1 ++ s.1, S0.2.1 ++ s.2.1, S0.2.2.1 ++ s.2.2.1, s.2.2.2.1, S0.2.2.2.2) (mset [] cSky true) (by decide) (by decide) (A1 ++ A2 ++ A3 ++ [(u, lws (sSky, [Wx s.2.2.2.1]))]) A5 R5 L p4 q4 m s.2.2.2.2.1 s.2.2.2.2.2.1 s.2.2.2.2.2.2.1 s.2.2.2.2.2.2.2 (by rw [e1, e2, e3, e4, e5]; simp) hn hc (by simp [S0]; omega) a5 hL c1 c2 c3 c4 c5 c6 (by omega) (by omega) ⟨by omega, by omega⟩
      have d5 : (A1 ++ A2 ++ A3 ++ [(u, lws (sSky, [Wx s.2.2.2.1]))]).length = s.1.length + s.2.1.length + s.2.2.1.length + 1 := by simp [l1, l2, l3]; omega
      rw [d5] at r5
      refine ⟨mset (mset (mset [] cSky true) cCam true) cFil true, p5, q5, ?_, y, ?_⟩
      rotate_left
      · rw [show [(u, lws (sSky, [Wx s.2.2.2.1]))].length + (s.2.2.2.2.1.length + (m + 1 + 1 + 1)) = (s.2.2.2.2.1.length + (m + 1 + 1 + 1)) + 1 by simp; omega]
        exact r4.trans r5
      · decide
  · rw [skyP, if_neg h0] at a4
    have an := List.map_eq_nil_iff.1 a4
    subst an
    have hz0 : s.2.2.2.1 = 0 := by omega
    obtain ⟨p5, q5, y, r5⟩ := tail_read (S0.1 ++ s.1, S0.2.1 ++ s.2.1, S0.2.2.1 ++ s.2.2.1, S0.2.2.2) [] (by decide) (by decide) (A1 ++ A2 ++ A3) A5 R5 L p3 q3 m s.2.2.2.2.1 s.2.2.2.2.2.1 s.2.2.2.2.2.2.1 s.2.2.2.2.2.2.2 (by rw [e1, e2, e3, e4, e5]; simp) hn hc (by simp [S0]; omega) a5 hL c1 c2 c3 c4 c5 c6 (by omega) (by omega) ⟨by omega, by omega⟩
    have d4 : (A1 ++ A2 ++ A3).length = s.1.length + s.2.1.length + s.2.2.1.length := by simp [l1, l2, l3]; omega
    rw [d4] at r5
    refine ⟨mset (mset [] cCam true) cFil true, p5, q5, by decide, y, ?_⟩
    rw [show ([] : List (Int × List ByteArray)).length + (s.2.2.2.2.1.length + (m + 1 + 1 + 1)) = s.2.2.2.2.1.length + (m + 1 + 1 + 1) by simp, hz0]
    exact r5
end Go.Proofs.Pen

namespace Go.Proofs.Pen
open Go Go.Proofs

theorem matP_len2 (m : MatT) : (jn (matP m)).length ≤ 170 := by
  have l1 := three_len m.1
  have l2 := three_len m.2.1
  have l3 := Tx_len m.2.2
  simp only [jn, matP, sMat, List.flatMap_append, List.length_append, List.flatMap_cons, List.flatMap_nil, List.length_cons, List.length_nil, List.append_nil]
  omega
theorem triP_len2 (m : TriT) : (jn (triP m)).length ≤ 225 := by
  have l1 := three_len m.1
  have l2 := three_len m.2.1
  have l3 := three_len m.2.2.1
  have l4 := Wx_len m.2.2.2
  simp only [jn, triP, sTri, List.flatMap_append, List.length_append, List.flatMap_cons, List.length_cons, List.length_nil]
  omega
theorem litP_len2 (m : LitT) : (jn (litP m)).length ≤ 90 := by
  have l1 := three_len m.2
  have l4 := Wx_len m.1
  simp only [jn, litP, sLight, List.length_append, List.flatMap_cons, List.length_cons, List.length_nil]
  omega
theorem celP_len2 (m : W3) : (jn (celP m)).length ≤ 75 := by
  have l1 := three_len m
  simp only [jn, celP, sCell, List.length_append, List.length_cons, List.length_nil]
  omega
theorem camP_len2 (c : CamT) : (jn (camP c)).length ≤ 290 := by
  have l1 := three_len c.1
  have l2 := three_len c.2.1
  have l3 := three_len c.2.2.1
  have l4 := Tx_len c.2.2.2.1
  have l5 := Tx_len c.2.2.2.2.1
  have l6 := Tx_len c.2.2.2.2.2
  simp only [jn, camP, sCam, List.flatMap_append, List.length_append, List.flatMap_cons, List.flatMap_nil, List.length_cons, List.length_nil, List.append_nil]
  omega
theorem map_len2 {α : Type} (f : α → LineT) (b : Nat) (h : ∀ a, (jn (f a)).length ≤ b) (l : List α) : (flat (l.map f)).length ≤ l.length * (b + 1) := by
  have := flatJ_len b (l.map f) (fun x hx => by obtain ⟨a, _, rfl⟩ := List.mem_map.1 hx; exact h a)
  rw [List.length_map] at this
  exact this
theorem sky_len (z : Int) : (flat (skyP z)).length ≤ 20 ∧ (skyP z).length ≤ 1 := by
  have := Wx_len z
  unfold skyP
  split
  · simp [flat, jn, sSky]; omega
  · simp [flat]
theorem fil_len (k h : Int) : (jn (filP k h)).length ≤ 45 := by
  have l1 := Wx_len k
  have l2 := Tx_len h
  simp only [jn, filP, sFil, List.length_append, List.flatMap_cons, List.flatMap_nil, List.length_cons, List.length_nil, List.append_nil]
  omega
theorem PL_len (s : ScT) (hb : bigB s = false) (hz : (s.2.2.2.2.1.length : Int) = 8 * s.2.2.2.1) (hl : s.1.length ≤ 40 ∧ s.2.1.length ≤ 60 ∧ s.2.2.1.length ≤ 60 ∧ s.2.2.2.2.1.length ≤ 200) : (flat (PL s)).length ≤ 40000 ∧ (PL s).length ≤ 400 := by
  have hb := bigB_false.1 hb
  have n1 := map_len2 matP 170 matP_len2 s.1
  have n2 := map_len2 triP 225 triP_len2 s.2.1
  have n3 := map_len2 litP 90 litP_len2 s.2.2.1
  have n4 := map_len2 celP 75 celP_len2 s.2.2.2.2.1
  have n5 := sky_len s.2.2.2.1
  have n6 := camP_len2 s.2.2.2.2.2.1
  have n7 := fil_len s.2.2.2.2.2.2.1 s.2.2.2.2.2.2.2
  unfold PL
  simp only [flat_app, List.length_append, List.length_map, List.length_cons, List.length_nil]
  have e : flat [camP s.2.2.2.2.2.1, filP s.2.2.2.2.2.2.1 s.2.2.2.2.2.2.2] = jn (camP s.2.2.2.2.2.1) ++ [10] ++ (jn (filP s.2.2.2.2.2.2.1 s.2.2.2.2.2.2.2) ++ [10]) := by simp [flat]
  rw [e]
  simp only [List.length_append, List.length_cons, List.length_nil]
  omega
end Go.Proofs.Pen

namespace Go.Proofs.Pen
open Go Go.Proofs

theorem read_back (s : ScT) (hs : okS s) (hl : s.1.length ≤ 40 ∧ s.2.1.length ≤ 60 ∧ s.2.2.1.length ≤ 60 ∧ s.2.2.2.2.1.length ≤ 200) (t : List UInt8) (ht : t.length ≤ 60000) (hw : lwd (sp t []) = (PL s).map lws) :
    parse_Parse (B t) = some (s, .nil) := by
  obtain ⟨seen, n1, w1, hf, y, hy⟩ := all_read s hs hl (ln (sp t []) 0) (by rw [ln_words, hw])
  have hb : lightB s := by obtain ⟨a, b, c, d⟩ := hl; exact ⟨by omega, by omega, by omega, by omega⟩
  have ho : wr s = none := wr_none.2 hs
  have hsz : (decide (((B t).size : Int) > 262144)) = false := by rw [B_size]; exact decide_eq_false (by omega)
  have e1 : parse_Parse (B t) = (parse_Parse.t (B t)).run := rfl
  have hy1 : parse_Parse.l0 (ZS, .nil, ([], [], [], 0, [], ((0, 0, 0), (0, 0, 0), (0, 0, 0), 0, 0, 0), 1, 512, [], 0, [], ()), ln (sp t []) 0, ((ln (sp t []) 0).length : Int), 0, ()) = _ := hy
  have hcode : ∀ z, (parse_Parse.t (B t)).run = z ↔ (T.ite (!flagM seen cCam) (T.opt (parse_bad 8) fun y => T.ret (ZS, y)) (T.opt (scene_Check s) fun y => T.ite y.isFault (T.ret (ZS, ErrD.fault y.faultC y.faultL y.faultE)) (T.ret (s, ErrD.nil)))).run = z := fun z => by
    unfold parse_Parse.t
    rw [tr_no hsz, tr_opt, Lines_eq t ht, Option.bind_some, tr_opt]
    show ((parse_Parse.l0 (ZS, _)).bind _ = _) ↔ _
    rw [hy1, Option.bind_some]
    dsimp only
    rw [tr_yes (b := exEq (Ex.exit 0) (Ex.exit 0)) rfl]
    simp only [List.take_length]
    exact Iff.rfl
  rw [e1]
  refine (hcode _).2 ?_
  rw [hf, tr_no (b := !true) rfl, tr_opt, Check_eq s hb, ho, Option.bind_some, tr_no (b := (mkErr none).isFault) rfl, tr_ret]

end Go.Proofs.Pen

namespace Go.Proofs.Pen
open Go Go.Proofs
noncomputable def parse_Print.deeps : Deeps := { D := [38, 40], C := [38, 40], frz := false, S := fun _ _ => noS }
theorem parse_Print.deepsOk : LoopsOK Tryz.prog parse_Print.deeps.S := (loops_none _)
noncomputable def numsGo {α : Type} (n : Nat) (l : List Int) (k : Nat → List Int → T α) : Nat → Int → Nat → List Int → T α
  | 0, _, c, u => .ite (decide ((c + 1) * 1 ≤ most)) (k (c + 1) (List.take c u ++ [10])) .fail
  | m + 1, i, c, u => .ite (decide (0 ≤ i) && decide (i < (n : Int))) (.opt l[0 + i.toNat]? fun y => .opt (lex_Text y) fun t =>
      .ite (decide ((((ByteArray.mk #[32]).size + t.1.size : Nat) : Int) > IntKind.i64.max)) .fail (.ite (decide ((c + (bytesOf (ByteArray.mk #[32] ++ t.1)).length) * 1 ≤ most))
        (numsGo n l k m (W (i + 1)) (c + (bytesOf (ByteArray.mk #[32] ++ t.1)).length) (List.take c u ++ bytesOf (ByteArray.mk #[32] ++ t.1))) .fail)) .fail
noncomputable def putT {α : Type} (w : ByteArray) (n : Nat) (l : List Int) (m c : Nat) (u : List Int) (k : Nat → List Int → T α) : T α :=
  .ite (decide ((c + (bytesOf w).length) * 1 ≤ most)) (numsGo n l k m 0 (c + (bytesOf w).length) (List.take c u ++ bytesOf w)) .fail
def pp3 (p : Int × Int × Int) : List Int := List.take 3 [p.1, p.2.1, p.2.2]
noncomputable def ptsGo {α : Type} (n : Nat) (P : List (Int × Int × Int)) (k : Nat → List Int → T α) : Nat → Int → Nat → List Int → T α
  | 0, _, c, l => k c l
  | m + 1, i, c, l => .ite (decide (0 ≤ i) && decide (i < (n : Int))) (.opt P[0 + i.toNat]? fun y => .ite (decide ((c + (pp3 y).length) * 8 ≤ most)) (ptsGo n P k m (W (i + 1)) (c + (pp3 y).length) (List.take c l ++ pp3 y)) .fail) .fail
noncomputable def ptsT {α : Type} (n : Nat) (P : List (Int × Int × Int)) (m : Nat) (k : Nat → List Int → T α) : T α :=
  .ite (decide ((0 : Int) ≤ 0) && decide ((0 : Int) < (n : Int))) (.opt P[0 + (0 : Int).toNat]? fun y => .ite (decide ((pp3 y).length * 8 ≤ most)) (ptsGo n P k m (W (0 + 1)) (pp3 y).length (pp3 y)) .fail) .fail
def parse_Print.L0 : List (Nat × Lay) := [(1, .box TScn), (5, .obx [.own (.int .u8)]), (6, .clo 38 [1]), (23, .val (.sl TMatD)), (24, .val TI), (25, .val TI)]
noncomputable def parse_Print.t0 (x : ((List ((Int × Int × Int) × (Int × Int × Int) × Int)) × (List ((Int × Int × Int) × (Int × Int × Int) × (Int × Int × Int) × Int)) × (List (Int × Int × Int × Int)) × Int × (List (Int × Int × Int)) × ((Int × Int × Int) × (Int × Int × Int) × (Int × Int × Int) × Int × Int × Int) × Int × Int) × (List Int × Unit) × (List ((Int × Int × Int) × (Int × Int × Int) × Int)) × Int × Int × Unit) : T (Ex × ((List ((Int × Int × Int) × (Int × Int × Int) × Int)) × (List ((Int × Int × Int) × (Int × Int × Int) × (Int × Int × Int) × Int)) × (List (Int × Int × Int × Int)) × Int × (List (Int × Int × Int)) × ((Int × Int × Int) × (Int × Int × Int) × (Int × Int × Int) × Int × Int × Int) × Int × Int) × (List Int × Unit) × (List ((Int × Int × Int) × (Int × Int × Int) × Int)) × Int × Int × Unit) := T.ite (decide (x.2.2.2.2.1 < x.2.2.2.1)) (T.opt (lget x.2.2.1 x.2.2.2.2.1) fun y => ptsT 2 [y.1, y.2.1] 1 fun c l => T.ite (decide ((c + 1) * 8 ≤ most)) (putT (ByteArray.mk #[109, 97, 116]) (c + 1) (List.take c l ++ [y.2.2]) 7 x.2.1.1.length x.2.1.1 fun c u => T.ret (Ex.normal, x.1, (List.take c u, ()), x.2.2.1, x.2.2.2.1, W (x.2.2.2.2.1 + 1), ())) T.fail) (T.ret (Ex.exit 0, x.1, (List.take x.2.1.1.length x.2.1.1, ()), x.2.2.1, x.2.2.2.1, x.2.2.2.2.1, ()))
noncomputable def parse_Print.l0 (x : ((List ((Int × Int × Int) × (Int × Int × Int) × Int)) × (List ((Int × Int × Int) × (Int × Int × Int) × (Int × Int × Int) × Int)) × (List (Int × Int × Int × Int)) × Int × (List (Int × Int × Int)) × ((Int × Int × Int) × (Int × Int × Int) × (Int × Int × Int) × Int × Int × Int) × Int × Int) × (List Int × Unit) × (List ((Int × Int × Int) × (Int × Int × Int) × Int)) × Int × Int × Unit) : Option (Ex × ((List ((Int × Int × Int) × (Int × Int × Int) × Int)) × (List ((Int × Int × Int) × (Int × Int × Int) × (Int × Int × Int) × Int)) × (List (Int × Int × Int × Int)) × Int × (List (Int × Int × Int)) × ((Int × Int × Int) × (Int × Int × Int) × (Int × Int × Int) × Int × Int × Int) × Int × Int) × (List Int × Unit) × (List ((Int × Int × Int) × (Int × Int × Int) × Int)) × Int × Int × Unit) := (iterT parse_Print.t0 rounds x).run
theorem parse_Print.k0 : bodies 0 (lp Tryz.f18 []) = [.loop (loopIn 0 (lp Tryz.f18 []))] ∧ WP Tryz.prog 0 (.block 0 (.loop (loopIn 0 (lp Tryz.f18 [])))) (loopS parse_Print.L0 136 0 [.exit 0] parse_Print.l0) :=
  loop_tree (L := parse_Print.L0) (F := (dp Tryz.prog (ext (ext (ext (ext Xs 33 scene_Check.q) 39 lex_Text.q) 86 scene_lights_1.q) 100 scene_within_1.q) parse_Print.deeps 100 8)) (D := (inL parse_Print.deeps.D)) (tab := []) (t := parse_Print.t0) mixed (dp_ok mixed (quiet_ext (quiet_ext (quiet_ext (quiet_ext Xok scene_Check.ok) lex_Text.ok) scene_lights_1.ok) scene_within_1.ok) parse_Print.deepsOk 100 8).1 (dp_ok mixed (quiet_ext (quiet_ext (quiet_ext (quiet_ext Xok scene_Check.ok) lex_Text.ok) scene_lights_1.ok) scene_within_1.ok) parse_Print.deepsOk 100 8).2 (fun _ => rfl) (by kernel_rfl) (by kernel_rfl) trivial (fun x => by kernel_rfl)
def parse_Print.L2 : List (Nat × Lay) := [(1, .box TScn), (5, .obx [.own (.int .u8)]), (6, .clo 38 [1]), (43, .val (.sl TTriD)), (44, .val TI), (45, .val TI)]
noncomputable def parse_Print.t2 (x : ((List ((Int × Int × Int) × (Int × Int × Int) × Int)) × (List ((Int × Int × Int) × (Int × Int × Int) × (Int × Int × Int) × Int)) × (List (Int × Int × Int × Int)) × Int × (List (Int × Int × Int)) × ((Int × Int × Int) × (Int × Int × Int) × (Int × Int × Int) × Int × Int × Int) × Int × Int) × (List Int × Unit) × (List ((Int × Int × Int) × (Int × Int × Int) × (Int × Int × Int) × Int)) × Int × Int × Unit) : T (Ex × ((List ((Int × Int × Int) × (Int × Int × Int) × Int)) × (List ((Int × Int × Int) × (Int × Int × Int) × (Int × Int × Int) × Int)) × (List (Int × Int × Int × Int)) × Int × (List (Int × Int × Int)) × ((Int × Int × Int) × (Int × Int × Int) × (Int × Int × Int) × Int × Int × Int) × Int × Int) × (List Int × Unit) × (List ((Int × Int × Int) × (Int × Int × Int) × (Int × Int × Int) × Int)) × Int × Int × Unit) := T.ite (decide (x.2.2.2.2.1 < x.2.2.2.1)) (T.opt (lget x.2.2.1 x.2.2.2.2.1) fun y => ptsT 3 [y.1, y.2.1, y.2.2.1] 2 fun c l => T.ite (decide ((1 + (List.take c l).length) * 8 ≤ most)) (putT (ByteArray.mk #[116, 114, 105]) (1 + (List.take c l).length) ([W (1024 * y.2.2.2)] ++ List.take c l) 10 x.2.1.1.length x.2.1.1 fun c u => T.ret (Ex.normal, x.1, (List.take c u, ()), x.2.2.1, x.2.2.2.1, W (x.2.2.2.2.1 + 1), ())) T.fail) (T.ret (Ex.exit 2, x.1, (List.take x.2.1.1.length x.2.1.1, ()), x.2.2.1, x.2.2.2.1, x.2.2.2.2.1, ()))
noncomputable def parse_Print.l2 (x : ((List ((Int × Int × Int) × (Int × Int × Int) × Int)) × (List ((Int × Int × Int) × (Int × Int × Int) × (Int × Int × Int) × Int)) × (List (Int × Int × Int × Int)) × Int × (List (Int × Int × Int)) × ((Int × Int × Int) × (Int × Int × Int) × (Int × Int × Int) × Int × Int × Int) × Int × Int) × (List Int × Unit) × (List ((Int × Int × Int) × (Int × Int × Int) × (Int × Int × Int) × Int)) × Int × Int × Unit) : Option (Ex × ((List ((Int × Int × Int) × (Int × Int × Int) × Int)) × (List ((Int × Int × Int) × (Int × Int × Int) × (Int × Int × Int) × Int)) × (List (Int × Int × Int × Int)) × Int × (List (Int × Int × Int)) × ((Int × Int × Int) × (Int × Int × Int) × (Int × Int × Int) × Int × Int × Int) × Int × Int) × (List Int × Unit) × (List ((Int × Int × Int) × (Int × Int × Int) × (Int × Int × Int) × Int)) × Int × Int × Unit) := (iterT parse_Print.t2 rounds x).run
theorem parse_Print.k2 : bodies 2 (lp Tryz.f18 []) = [.loop (loopIn 2 (lp Tryz.f18 []))] ∧ WP Tryz.prog 0 (.block 2 (.loop (loopIn 2 (lp Tryz.f18 [])))) (loopS parse_Print.L2 136 2 [.exit 2] parse_Print.l2) :=
  loop_tree (L := parse_Print.L2) (F := (dp Tryz.prog (ext (ext (ext (ext Xs 33 scene_Check.q) 39 lex_Text.q) 86 scene_lights_1.q) 100 scene_within_1.q) parse_Print.deeps 100 8)) (D := (inL parse_Print.deeps.D)) (tab := []) (t := parse_Print.t2) mixed (dp_ok mixed (quiet_ext (quiet_ext (quiet_ext (quiet_ext Xok scene_Check.ok) lex_Text.ok) scene_lights_1.ok) scene_within_1.ok) parse_Print.deepsOk 100 8).1 (dp_ok mixed (quiet_ext (quiet_ext (quiet_ext (quiet_ext Xok scene_Check.ok) lex_Text.ok) scene_lights_1.ok) scene_within_1.ok) parse_Print.deepsOk 100 8).2 (fun _ => rfl) (by kernel_rfl) (by kernel_rfl) trivial (fun x => by kernel_rfl)
def parse_Print.L4 : List (Nat × Lay) := [(1, .box TScn), (5, .obx [.own (.int .u8)]), (6, .clo 38 [1]), (66, .val (.sl TLitD)), (67, .val TI), (68, .val TI)]
noncomputable def parse_Print.t4 (x : ((List ((Int × Int × Int) × (Int × Int × Int) × Int)) × (List ((Int × Int × Int) × (Int × Int × Int) × (Int × Int × Int) × Int)) × (List (Int × Int × Int × Int)) × Int × (List (Int × Int × Int)) × ((Int × Int × Int) × (Int × Int × Int) × (Int × Int × Int) × Int × Int × Int) × Int × Int) × (List Int × Unit) × (List (Int × Int × Int × Int)) × Int × Int × Unit) : T (Ex × ((List ((Int × Int × Int) × (Int × Int × Int) × Int)) × (List ((Int × Int × Int) × (Int × Int × Int) × (Int × Int × Int) × Int)) × (List (Int × Int × Int × Int)) × Int × (List (Int × Int × Int)) × ((Int × Int × Int) × (Int × Int × Int) × (Int × Int × Int) × Int × Int × Int) × Int × Int) × (List Int × Unit) × (List (Int × Int × Int × Int)) × Int × Int × Unit) := T.ite (decide (x.2.2.2.2.1 < x.2.2.2.1)) (T.opt (lget x.2.2.1 x.2.2.2.2.1) fun y => ptsT 1 [y.2] 0 fun c l => T.ite (decide ((1 + (List.take c l).length) * 8 ≤ most)) (putT (ByteArray.mk #[108, 105, 103, 104, 116]) (1 + (List.take c l).length) ([W (1024 * y.1)] ++ List.take c l) 4 x.2.1.1.length x.2.1.1 fun c u => T.ret (Ex.normal, x.1, (List.take c u, ()), x.2.2.1, x.2.2.2.1, W (x.2.2.2.2.1 + 1), ())) T.fail) (T.ret (Ex.exit 4, x.1, (List.take x.2.1.1.length x.2.1.1, ()), x.2.2.1, x.2.2.2.1, x.2.2.2.2.1, ()))
noncomputable def parse_Print.l4 (x : ((List ((Int × Int × Int) × (Int × Int × Int) × Int)) × (List ((Int × Int × Int) × (Int × Int × Int) × (Int × Int × Int) × Int)) × (List (Int × Int × Int × Int)) × Int × (List (Int × Int × Int)) × ((Int × Int × Int) × (Int × Int × Int) × (Int × Int × Int) × Int × Int × Int) × Int × Int) × (List Int × Unit) × (List (Int × Int × Int × Int)) × Int × Int × Unit) : Option (Ex × ((List ((Int × Int × Int) × (Int × Int × Int) × Int)) × (List ((Int × Int × Int) × (Int × Int × Int) × (Int × Int × Int) × Int)) × (List (Int × Int × Int × Int)) × Int × (List (Int × Int × Int)) × ((Int × Int × Int) × (Int × Int × Int) × (Int × Int × Int) × Int × Int × Int) × Int × Int) × (List Int × Unit) × (List (Int × Int × Int × Int)) × Int × Int × Unit) := (iterT parse_Print.t4 rounds x).run
theorem parse_Print.k4 : bodies 4 (lp Tryz.f18 []) = [.loop (loopIn 4 (lp Tryz.f18 []))] ∧ WP Tryz.prog 0 (.block 4 (.loop (loopIn 4 (lp Tryz.f18 [])))) (loopS parse_Print.L4 136 4 [.exit 4] parse_Print.l4) :=
  loop_tree (L := parse_Print.L4) (F := (dp Tryz.prog (ext (ext (ext (ext Xs 33 scene_Check.q) 39 lex_Text.q) 86 scene_lights_1.q) 100 scene_within_1.q) parse_Print.deeps 100 8)) (D := (inL parse_Print.deeps.D)) (tab := []) (t := parse_Print.t4) mixed (dp_ok mixed (quiet_ext (quiet_ext (quiet_ext (quiet_ext Xok scene_Check.ok) lex_Text.ok) scene_lights_1.ok) scene_within_1.ok) parse_Print.deepsOk 100 8).1 (dp_ok mixed (quiet_ext (quiet_ext (quiet_ext (quiet_ext Xok scene_Check.ok) lex_Text.ok) scene_lights_1.ok) scene_within_1.ok) parse_Print.deepsOk 100 8).2 (fun _ => rfl) (by kernel_rfl) (by kernel_rfl) trivial (fun x => by kernel_rfl)
def parse_Print.L6 : List (Nat × Lay) := [(1, .box TScn), (5, .obx [.own (.int .u8)]), (6, .clo 38 [1]), (94, .val (.sl TP)), (95, .val TI), (96, .val TI)]
noncomputable def parse_Print.t6 (x : ((List ((Int × Int × Int) × (Int × Int × Int) × Int)) × (List ((Int × Int × Int) × (Int × Int × Int) × (Int × Int × Int) × Int)) × (List (Int × Int × Int × Int)) × Int × (List (Int × Int × Int)) × ((Int × Int × Int) × (Int × Int × Int) × (Int × Int × Int) × Int × Int × Int) × Int × Int) × (List Int × Unit) × (List (Int × Int × Int)) × Int × Int × Unit) : T (Ex × ((List ((Int × Int × Int) × (Int × Int × Int) × Int)) × (List ((Int × Int × Int) × (Int × Int × Int) × (Int × Int × Int) × Int)) × (List (Int × Int × Int × Int)) × Int × (List (Int × Int × Int)) × ((Int × Int × Int) × (Int × Int × Int) × (Int × Int × Int) × Int × Int × Int) × Int × Int) × (List Int × Unit) × (List (Int × Int × Int)) × Int × Int × Unit) := T.ite (decide (x.2.2.2.2.1 < x.2.2.2.1)) (T.opt (lget x.2.2.1 x.2.2.2.2.1) fun y => ptsT 1 [y] 0 fun c l => putT (ByteArray.mk #[99, 101, 108, 108]) c l 3 x.2.1.1.length x.2.1.1 fun c u => T.ret (Ex.normal, x.1, (List.take c u, ()), x.2.2.1, x.2.2.2.1, W (x.2.2.2.2.1 + 1), ())) (T.ret (Ex.exit 6, x.1, (List.take x.2.1.1.length x.2.1.1, ()), x.2.2.1, x.2.2.2.1, x.2.2.2.2.1, ()))
noncomputable def parse_Print.l6 (x : ((List ((Int × Int × Int) × (Int × Int × Int) × Int)) × (List ((Int × Int × Int) × (Int × Int × Int) × (Int × Int × Int) × Int)) × (List (Int × Int × Int × Int)) × Int × (List (Int × Int × Int)) × ((Int × Int × Int) × (Int × Int × Int) × (Int × Int × Int) × Int × Int × Int) × Int × Int) × (List Int × Unit) × (List (Int × Int × Int)) × Int × Int × Unit) : Option (Ex × ((List ((Int × Int × Int) × (Int × Int × Int) × Int)) × (List ((Int × Int × Int) × (Int × Int × Int) × (Int × Int × Int) × Int)) × (List (Int × Int × Int × Int)) × Int × (List (Int × Int × Int)) × ((Int × Int × Int) × (Int × Int × Int) × (Int × Int × Int) × Int × Int × Int) × Int × Int) × (List Int × Unit) × (List (Int × Int × Int)) × Int × Int × Unit) := (iterT parse_Print.t6 rounds x).run
theorem parse_Print.k6 : bodies 6 (lp Tryz.f18 []) = [.loop (loopIn 6 (lp Tryz.f18 []))] ∧ WP Tryz.prog 0 (.block 6 (.loop (loopIn 6 (lp Tryz.f18 [])))) (loopS parse_Print.L6 136 6 [.exit 6] parse_Print.l6) :=
  loop_tree (L := parse_Print.L6) (F := (dp Tryz.prog (ext (ext (ext (ext Xs 33 scene_Check.q) 39 lex_Text.q) 86 scene_lights_1.q) 100 scene_within_1.q) parse_Print.deeps 100 8)) (D := (inL parse_Print.deeps.D)) (tab := []) (t := parse_Print.t6) mixed (dp_ok mixed (quiet_ext (quiet_ext (quiet_ext (quiet_ext Xok scene_Check.ok) lex_Text.ok) scene_lights_1.ok) scene_within_1.ok) parse_Print.deepsOk 100 8).1 (dp_ok mixed (quiet_ext (quiet_ext (quiet_ext (quiet_ext Xok scene_Check.ok) lex_Text.ok) scene_lights_1.ok) scene_within_1.ok) parse_Print.deepsOk 100 8).2 (fun _ => rfl) (by kernel_rfl) (by kernel_rfl) trivial (fun x => by kernel_rfl)
noncomputable def parse_Print.tl (s : ((List ((Int × Int × Int) × (Int × Int × Int) × Int)) × (List ((Int × Int × Int) × (Int × Int × Int) × (Int × Int × Int) × Int)) × (List (Int × Int × Int × Int)) × Int × (List (Int × Int × Int)) × ((Int × Int × Int) × (Int × Int × Int) × (Int × Int × Int) × Int × Int × Int) × Int × Int)) (u : List Int) : T (ByteArray × ErrD) :=
  ptsT 3 [s.2.2.2.2.2.1.1, s.2.2.2.2.2.1.2.1, s.2.2.2.2.2.1.2.2.1] 2 fun c l => T.ite (decide ((c + 3) * 8 ≤ most)) (putT (ByteArray.mk #[99, 97, 109, 101, 114, 97]) (c + 3) (List.take c l ++ [s.2.2.2.2.2.1.2.2.2.1, s.2.2.2.2.2.1.2.2.2.2.1, s.2.2.2.2.2.1.2.2.2.2.2]) 12 u.length u fun c u =>
    putT (ByteArray.mk #[102, 105, 108, 116, 101, 114]) 2 [W (1024 * s.2.2.2.2.2.2.1), s.2.2.2.2.2.2.2] 2 c u fun c u => T.ret (ofBytes (List.take c u), ErrD.nil)) T.fail
noncomputable def parse_Print.t (x : ((List ((Int × Int × Int) × (Int × Int × Int) × Int)) × (List ((Int × Int × Int) × (Int × Int × Int) × (Int × Int × Int) × Int)) × (List (Int × Int × Int × Int)) × Int × (List (Int × Int × Int)) × ((Int × Int × Int) × (Int × Int × Int) × (Int × Int × Int) × Int × Int × Int) × Int × Int)) : T (ByteArray × ErrD) := T.opt (scene_Check x) fun y => T.ite (!y.isNil) (T.ret ((ByteArray.mk #[]), y)) (T.opt (parse_Print.l0 (x, ([], ()), x.1, (↑(List.length x.1) : Int), 0, ())) fun y => T.ite (exEq y.1 (Ex.exit 0)) (T.opt (parse_Print.l2 (y.2.1, (List.take y.2.2.1.1.length y.2.2.1.1, ()), y.2.1.2.1, (↑(List.length y.2.1.2.1) : Int), 0, ())) fun y => T.ite (exEq y.1 (Ex.exit 2)) (T.opt (parse_Print.l4 (y.2.1, (List.take y.2.2.1.1.length y.2.2.1.1, ()), y.2.1.2.2.1, (↑(List.length y.2.1.2.2.1) : Int), 0, ())) fun y => T.ite (exEq y.1 (Ex.exit 4)) (T.ite (decide (y.2.1.2.2.2.1 > 0)) (putT (ByteArray.mk #[115, 107, 121]) 1 [W (1024 * y.2.1.2.2.2.1)] 1 y.2.2.1.1.length y.2.2.1.1 fun c u => T.opt (parse_Print.l6 (y.2.1, (List.take c u, ()), y.2.1.2.2.2.2.1, (↑(List.length y.2.1.2.2.2.2.1) : Int), 0, ())) fun y => T.ite (exEq y.1 (Ex.exit 6)) (parse_Print.tl y.2.1 y.2.2.1.1) T.fail) (T.opt (parse_Print.l6 (y.2.1, (List.take y.2.2.1.1.length y.2.2.1.1, ()), y.2.1.2.2.2.2.1, (↑(List.length y.2.1.2.2.2.2.1) : Int), 0, ())) fun y => T.ite (exEq y.1 (Ex.exit 6)) (parse_Print.tl y.2.1 y.2.2.1.1) T.fail)) T.fail) T.fail) T.fail)
noncomputable def parse_Print (x : ((List ((Int × Int × Int) × (Int × Int × Int) × Int)) × (List ((Int × Int × Int) × (Int × Int × Int) × (Int × Int × Int) × Int)) × (List (Int × Int × Int × Int)) × Int × (List (Int × Int × Int)) × ((Int × Int × Int) × (Int × Int × Int) × (Int × Int × Int) × Int × Int × Int) × Int × Int)) : Option (ByteArray × ErrD) := (parse_Print.t x).run
noncomputable def parse_Print.q : List AV → T AV := entry [TScn] (outR [.str, TE]) fun x => .opt (parse_Print x) .ret
theorem parse_Print.ok : FnOK Tryz.prog 18 parse_Print.q :=
  entry_call (ps := [TScn]) (rs := [.str, TE]) (F := (dp Tryz.prog (ext (ext (ext (ext Xs 33 scene_Check.q) 39 lex_Text.q) 86 scene_lights_1.q) 100 scene_within_1.q) parse_Print.deeps 100 8)) (D := (inL parse_Print.deeps.D)) (S := tabS [(0, loopS parse_Print.L0 136 0 [.exit 0] parse_Print.l0), (2, loopS parse_Print.L2 136 2 [.exit 2] parse_Print.l2), (4, loopS parse_Print.L4 136 4 [.exit 4] parse_Print.l4), (6, loopS parse_Print.L6 136 6 [.exit 6] parse_Print.l6)]) (t := parse_Print.t) mixed (dp_ok mixed (quiet_ext (quiet_ext (quiet_ext (quiet_ext Xok scene_Check.ok) lex_Text.ok) scene_lights_1.ok) scene_within_1.ok) parse_Print.deepsOk 100 8).1 (dp_ok mixed (quiet_ext (quiet_ext (quiet_ext (quiet_ext Xok scene_Check.ok) lex_Text.ok) scene_lights_1.ok) scene_within_1.ok) parse_Print.deepsOk 100 8).2 Tryz.func18 (by kernel_rfl) (sok_fn ⟨parse_Print.k0, parse_Print.k2, parse_Print.k4, parse_Print.k6, trivial⟩) (by kernel_rfl) (fun x => by kernel_rfl)
end Go.Proofs.Pen

namespace Go.Proofs.Pen
open Go Go.Proofs
noncomputable def law24_ParsePrints.t (x : ((List ((Int × Int × Int) × (Int × Int × Int) × Int)) × (List ((Int × Int × Int) × (Int × Int × Int) × (Int × Int × Int) × Int)) × (List (Int × Int × Int × Int)) × Int × (List (Int × Int × Int)) × ((Int × Int × Int) × (Int × Int × Int) × (Int × Int × Int) × Int × Int × Int) × Int × Int)) : T (Bool) := T.ite (!(decide ((↑x.1.length : Int) ≤ (40 : Int)) && decide ((↑x.2.1.length : Int) ≤ (60 : Int)) && decide ((↑x.2.2.1.length : Int) ≤ (60 : Int)) && decide ((↑x.2.2.2.2.1.length : Int) ≤ (200 : Int)))) (T.ret true) (T.opt (parse_Print x) fun y => T.opt (ref22_Check x) fun y_1 => T.ite (!(y_1.fst == (0 : Int) && (y_1.snd.fst == (0 : Int) && y_1.snd.snd == (0 : Int)))) (T.ite (ByteArray.toList y.1 == (ByteArray.mk #[]).toList && !ErrD.isNil y.2) (T.ite (ErrD.top y.2 == y_1.fst) (T.opt (fault_Is (y.2, y_1.snd.fst)) fun y_2 => T.ite y_2 (T.opt (fault_Line y.2) fun y => T.ret (y == y_1.snd.snd)) (T.ret false)) (T.ret false)) (T.ret false)) (T.opt (parse_Parse y.1) fun y_2 => T.ite (ErrD.isNil y.2) (T.opt (ref24_Print x) fun y_3 => T.ite (ByteArray.toList y.1 == y_3.toList && ErrD.isNil y_2.snd) (T.opt (ref22_Same (y_2.fst, x)) fun y => T.ret y) (T.ret false)) (T.ret false)))
noncomputable def law24_ParsePrints (x : ((List ((Int × Int × Int) × (Int × Int × Int) × Int)) × (List ((Int × Int × Int) × (Int × Int × Int) × (Int × Int × Int) × Int)) × (List (Int × Int × Int × Int)) × Int × (List (Int × Int × Int)) × ((Int × Int × Int) × (Int × Int × Int) × (Int × Int × Int) × Int × Int × Int) × Int × Int)) : Option (Bool) := (law24_ParsePrints.t x).run
noncomputable def law24_ParsePrints.q : List AV → T AV := entry [TScn] (outR [.bool]) fun x => .opt (law24_ParsePrints x) .ret
theorem law24_ParsePrints.ok : FnOK Tryz.prog 6 law24_ParsePrints.q :=
  entry_call (ps := [TScn]) (rs := [.bool]) (F := ({ quiet := (ext (ext (ext (ext (ext (ext (ext (ext (ext (ext (ext Xs 7 law22_Light.q) 9 law24_awake.q) 18 parse_Print.q) 8 ref22_Check.q) 20 fault_Is.q) 21 fault_Line.q) 12 parse_Parse.q) 11 ref24_Print.q) 13 ref22_Same.q) 86 scene_lights_1.q) 100 scene_within_1.q), deep := noDeep } : Fns)) (D := D0) (S := tabS []) (t := law24_ParsePrints.t) mixed (quiet_ext (quiet_ext (quiet_ext (quiet_ext (quiet_ext (quiet_ext (quiet_ext (quiet_ext (quiet_ext (quiet_ext (quiet_ext Xok law22_Light.ok) law24_awake.ok) parse_Print.ok) ref22_Check.ok) fault_Is.ok) fault_Line.ok) parse_Parse.ok) ref24_Print.ok) ref22_Same.ok) scene_lights_1.ok) scene_within_1.ok) (deep_none _) Tryz.func6 (by kernel_rfl) (sok_fn trivial) (by kernel_rfl) (fun x => by kernel_rfl)
end Go.Proofs.Pen
