/- A part of the proof that the law ParseReads is true of every input: models of the functions that the law reaches, and what holds of them. -/
import Derived.KernelRfl
import Derived.Test.YtncgifjccpngfaaGreatDoorPenKit0
import Derived.Test.YtncgifjccpngfaaGreatDoorPenKit1
import Derived.Test.YtncgifjccpngfaaGreatDoorPenKit2
import Derived.Test.YtncgifjccpngfaaGreatDoorPenKit3
import Derived.Test.YtncgifjccpngfaaGreatDoorPenParseReads4
import Derived.Test.YtncgifjccpngfaaGreatDoorPenParseReads5
namespace Go.Proofs.Pen
open Go Go.Proofs
noncomputable def parse_Parse.deeps : Deeps := { D := [32, 53, 54, 78, 52, 34, 33], C := [], frz := false, S := extSn (fun _ _ => noS) 53 7 (tabS numLoop.S) }
theorem parse_Parse.deepsOk : LoopsOK Tryz.prog parse_Parse.deeps.S := (loops_extn (loops_none _) Tryz.func53 numLoop.tab)
noncomputable def parse_Parse.tabl : DTab := (tbExt tb 33 (freshD scene_Check.q))
theorem parse_Parse.tablOk : TBOK Tryz.prog parse_Parse.tabl := (tb_ext tbOk (fresh_deep scene_Check.okF))
def parse_Parse.L0 : List (Nat × Lay) := [(2, .box TScn), (3, .val TE), (4, .obx [.own TMatD, .own TTriD, .own TLitD, .dat TI, .own TP, .dat TCam, .dat TI, .dat TI, .mpi, .dat TI, .dat (.sl .str)]), (18, .val (.sl (.st (.pair TI (.sl .str))))), (19, .val TI), (20, .val TI)]
noncomputable def parse_Parse.t0 (x : ((List ((Int × Int × Int) × (Int × Int × Int) × Int)) × (List ((Int × Int × Int) × (Int × Int × Int) × (Int × Int × Int) × Int)) × (List (Int × Int × Int × Int)) × Int × (List (Int × Int × Int)) × ((Int × Int × Int) × (Int × Int × Int) × (Int × Int × Int) × Int × Int × Int) × Int × Int) × ErrD × (List ((Int × Int × Int) × (Int × Int × Int) × Int) × List ((Int × Int × Int) × (Int × Int × Int) × (Int × Int × Int) × Int) × List (Int × Int × Int × Int) × Int × List (Int × Int × Int) × ((Int × Int × Int) × (Int × Int × Int) × (Int × Int × Int) × Int × Int × Int) × Int × Int × List (ByteArray × Bool) × Int × (List (ByteArray)) × Unit) × (List (Int × List (ByteArray))) × Int × Int × Unit) : T (Ex × ((List ((Int × Int × Int) × (Int × Int × Int) × Int)) × (List ((Int × Int × Int) × (Int × Int × Int) × (Int × Int × Int) × Int)) × (List (Int × Int × Int × Int)) × Int × (List (Int × Int × Int)) × ((Int × Int × Int) × (Int × Int × Int) × (Int × Int × Int) × Int × Int × Int) × Int × Int) × ErrD × (List ((Int × Int × Int) × (Int × Int × Int) × Int) × List ((Int × Int × Int) × (Int × Int × Int) × (Int × Int × Int) × Int) × List (Int × Int × Int × Int) × Int × List (Int × Int × Int) × ((Int × Int × Int) × (Int × Int × Int) × (Int × Int × Int) × Int × Int × Int) × Int × Int × List (ByteArray × Bool) × Int × (List (ByteArray)) × Unit) × (List (Int × List (ByteArray))) × Int × Int × Unit) := T.ite (decide (x.2.2.2.2.2.1 < x.2.2.2.2.1)) (T.opt (lget x.2.2.2.1 x.2.2.2.2.2.1) fun y => T.opt (lget y.2 (0 : Int)) fun y_1 => T.opt (parse_takes y_1) fun y_2 => T.ite (!y_2.snd.snd) (T.opt (fault_New ((15 : Int), y.1)) fun y_3 => T.opt (fault_Wrap (y_3, (9 : Int), (0 : Int))) fun y_4 => T.ite (!y_4.isNil) (T.ret (Ex.ret, ([], [], [], (0 : Int), [], (((0 : Int), (0 : Int), (0 : Int)), ((0 : Int), (0 : Int), (0 : Int)), ((0 : Int), (0 : Int), (0 : Int)), (0 : Int), (0 : Int), (0 : Int)), (0 : Int), (0 : Int)), y_4, (List.take x.2.2.1.1.length x.2.2.1.1, List.take x.2.2.1.2.1.length x.2.2.1.2.1, List.take x.2.2.1.2.2.1.length x.2.2.1.2.2.1, x.2.2.1.2.2.2.1, List.take x.2.2.1.2.2.2.2.1.length x.2.2.1.2.2.2.2.1, x.2.2.1.2.2.2.2.2.1, x.2.2.1.2.2.2.2.2.2.1, x.2.2.1.2.2.2.2.2.2.2.1, x.2.2.1.2.2.2.2.2.2.2.2.1, y.1, y.2, ()), x.2.2.2.1, x.2.2.2.2.1, x.2.2.2.2.2.1, ())) (T.ret (Ex.normal, x.1, x.2.1, (List.take x.2.2.1.1.length x.2.2.1.1, List.take x.2.2.1.2.1.length x.2.2.1.2.1, List.take x.2.2.1.2.2.1.length x.2.2.1.2.2.1, x.2.2.1.2.2.2.1, List.take x.2.2.1.2.2.2.2.1.length x.2.2.1.2.2.2.2.1, x.2.2.1.2.2.2.2.2.1, x.2.2.1.2.2.2.2.2.2.1, x.2.2.1.2.2.2.2.2.2.2.1, x.2.2.1.2.2.2.2.2.2.2.2.1, y.1, y.2, ()), x.2.2.2.1, x.2.2.2.2.1, W (x.2.2.2.2.2.1 + (1 : Int)), ()))) (T.ite (decide ((0 : Int) ≤ (1 : Int)) && decide ((1 : Int) ≤ (↑(List.length y.2) : Int)) && decide ((↑(List.length y.2) : Int) ≤ (↑(List.length y.2) : Int))) (T.ite ((↑(List.take ((↑(List.length y.2) : Int).toNat - Int.toNat (1 : Int)) (List.drop (Int.toNat (1 : Int)) y.2)).length : Int) != y_2.fst) (T.opt (fault_New ((14 : Int), y.1)) fun y_3 => T.opt (fault_Wrap (y_3, (9 : Int), (0 : Int))) fun y_4 => T.ite (!y_4.isNil) (T.ite (!y_4.isNil) (T.ret (Ex.ret, ([], [], [], (0 : Int), [], (((0 : Int), (0 : Int), (0 : Int)), ((0 : Int), (0 : Int), (0 : Int)), ((0 : Int), (0 : Int), (0 : Int)), (0 : Int), (0 : Int), (0 : Int)), (0 : Int), (0 : Int)), y_4, (List.take x.2.2.1.1.length x.2.2.1.1, List.take x.2.2.1.2.1.length x.2.2.1.2.1, List.take x.2.2.1.2.2.1.length x.2.2.1.2.2.1, x.2.2.1.2.2.2.1, List.take x.2.2.1.2.2.2.2.1.length x.2.2.1.2.2.2.2.1, x.2.2.1.2.2.2.2.2.1, x.2.2.1.2.2.2.2.2.2.1, x.2.2.1.2.2.2.2.2.2.2.1, x.2.2.1.2.2.2.2.2.2.2.2.1, y.1, y.2, ()), x.2.2.2.1, x.2.2.2.2.1, x.2.2.2.2.2.1, ())) (T.ret (Ex.normal, x.1, x.2.1, (List.take x.2.2.1.1.length x.2.2.1.1, List.take x.2.2.1.2.1.length x.2.2.1.2.1, List.take x.2.2.1.2.2.1.length x.2.2.1.2.2.1, x.2.2.1.2.2.2.1, List.take x.2.2.1.2.2.2.2.1.length x.2.2.1.2.2.2.2.1, x.2.2.1.2.2.2.2.2.1, x.2.2.1.2.2.2.2.2.2.1, x.2.2.1.2.2.2.2.2.2.2.1, x.2.2.1.2.2.2.2.2.2.2.2.1, y.1, y.2, ()), x.2.2.2.1, x.2.2.2.2.1, W (x.2.2.2.2.2.1 + (1 : Int)), ()))) (T.opt (lget y.2 (0 : Int)) fun y_5 => T.ite (ByteArray.toList y_5 == (ByteArray.mk #[(109 : UInt8), (97 : UInt8), (116 : UInt8), (116 : UInt8)]).toList) (T.ite (decide ((List.take (4 : Nat) [(0 : Int), (0 : Int), (0 : Int), (1024 : Int)]).length * nat_lit 8 ≤ most)) (T.opt (parse_point (List.take (List.take (4 : Nat) [(0 : Int), (0 : Int), (0 : Int), (1024 : Int)]).length (List.take (4 : Nat) [(0 : Int), (0 : Int), (0 : Int), (1024 : Int)]))) fun y_6 => T.ite (decide ((0 : Int) ≤ (3 : Int)) && decide ((3 : Int) ≤ (↑(List.take (4 : Nat) [(0 : Int), (0 : Int), (0 : Int), (1024 : Int)]).length : Int)) && decide ((↑(List.take (4 : Nat) [(0 : Int), (0 : Int), (0 : Int), (1024 : Int)]).length : Int) ≤ (↑(List.take (4 : Nat) [(0 : Int), (0 : Int), (0 : Int), (1024 : Int)]).length : Int))) (T.opt (parse_point (List.take ((↑(List.take (4 : Nat) [(0 : Int), (0 : Int), (0 : Int), (1024 : Int)]).length : Int).toNat - Int.toNat (3 : Int)) (List.drop ((0 : Nat) + Int.toNat (3 : Int)) (List.take (4 : Nat) [(0 : Int), (0 : Int), (0 : Int), (1024 : Int)])))) fun y_7 => T.ite (decide ((0 : Int) ≤ (6 : Int)) && decide ((6 : Int) < (↑(List.take (4 : Nat) [(0 : Int), (0 : Int), (0 : Int), (1024 : Int)]).length : Int))) (T.opt (List.take (4 : Nat) [(0 : Int), (0 : Int), (0 : Int), (1024 : Int)])[(0 : Nat) + Int.toNat (6 : Int)]? fun y_8 => T.ite (decide ((x.2.2.1.1.length + (1 : Nat)) * nat_lit 56 ≤ most)) (T.ite false (T.ret (Ex.ret, ([], [], [], (0 : Int), [], (((0 : Int), (0 : Int), (0 : Int)), ((0 : Int), (0 : Int), (0 : Int)), ((0 : Int), (0 : Int), (0 : Int)), (0 : Int), (0 : Int), (0 : Int)), (0 : Int), (0 : Int)), ErrD.nil, (List.take (x.2.2.1.1.length + (1 : Nat)) (List.take x.2.2.1.1.length x.2.2.1.1 ++ [(y_6, y_7, y_8)]), List.take x.2.2.1.2.1.length x.2.2.1.2.1, List.take x.2.2.1.2.2.1.length x.2.2.1.2.2.1, x.2.2.1.2.2.2.1, List.take x.2.2.1.2.2.2.2.1.length x.2.2.1.2.2.2.2.1, x.2.2.1.2.2.2.2.2.1, x.2.2.1.2.2.2.2.2.2.1, x.2.2.1.2.2.2.2.2.2.2.1, x.2.2.1.2.2.2.2.2.2.2.2.1, y.1, y.2, ()), x.2.2.2.1, x.2.2.2.2.1, x.2.2.2.2.2.1, ())) (T.ret (Ex.normal, x.1, x.2.1, (List.take (x.2.2.1.1.length + (1 : Nat)) (List.take x.2.2.1.1.length x.2.2.1.1 ++ [(y_6, y_7, y_8)]), List.take x.2.2.1.2.1.length x.2.2.1.2.1, List.take x.2.2.1.2.2.1.length x.2.2.1.2.2.1, x.2.2.1.2.2.2.1, List.take x.2.2.1.2.2.2.2.1.length x.2.2.1.2.2.2.2.1, x.2.2.1.2.2.2.2.2.1, x.2.2.1.2.2.2.2.2.2.1, x.2.2.1.2.2.2.2.2.2.2.1, x.2.2.1.2.2.2.2.2.2.2.2.1, y.1, y.2, ()), x.2.2.2.1, x.2.2.2.2.1, W (x.2.2.2.2.2.1 + (1 : Int)), ()))) T.fail) T.fail) T.fail) T.fail) (T.ite (ByteArray.toList y_5 == (ByteArray.mk #[(109 : UInt8), (97 : UInt8), (116 : UInt8)]).toList) (T.opt (parse_point []) fun y => T.ite (decide ((0 : Int) ≤ (3 : Int)) && decide ((3 : Int) ≤ (↑(0 : Nat) : Int)) && decide ((↑(0 : Nat) : Int) ≤ (↑(0 : Nat) : Int))) (T.opt (parse_point []) fun y => T.fail) T.fail) (T.ite (ByteArray.toList y_5 == (ByteArray.mk #[(116 : UInt8), (114 : UInt8), (105 : UInt8)]).toList) (T.ite (decide ((0 : Int) ≤ (1 : Int)) && decide ((1 : Int) ≤ (↑(0 : Nat) : Int)) && decide ((↑(0 : Nat) : Int) ≤ (↑(0 : Nat) : Int))) (T.opt (parse_point []) fun y => T.ite (decide ((0 : Int) ≤ (4 : Int)) && decide ((4 : Int) ≤ (↑(0 : Nat) : Int)) && decide ((↑(0 : Nat) : Int) ≤ (↑(0 : Nat) : Int))) (T.opt (parse_point []) fun y => T.ite (decide ((0 : Int) ≤ (7 : Int)) && decide ((7 : Int) ≤ (↑(0 : Nat) : Int)) && decide ((↑(0 : Nat) : Int) ≤ (↑(0 : Nat) : Int))) (T.opt (parse_point []) fun y => T.fail) T.fail) T.fail) T.fail) (T.ite (ByteArray.toList y_5 == (ByteArray.mk #[(108 : UInt8), (105 : UInt8), (103 : UInt8), (104 : UInt8), (116 : UInt8)]).toList) T.fail (T.ite (ByteArray.toList y_5 == (ByteArray.mk #[(99 : UInt8), (101 : UInt8), (108 : UInt8), (108 : UInt8)]).toList) (T.opt (parse_point []) fun y_6 => T.ite (decide ((x.2.2.1.2.2.2.2.1.length + (1 : Nat)) * nat_lit 24 ≤ most)) (T.ite false (T.ret (Ex.ret, ([], [], [], (0 : Int), [], (((0 : Int), (0 : Int), (0 : Int)), ((0 : Int), (0 : Int), (0 : Int)), ((0 : Int), (0 : Int), (0 : Int)), (0 : Int), (0 : Int), (0 : Int)), (0 : Int), (0 : Int)), ErrD.nil, (List.take x.2.2.1.1.length x.2.2.1.1, List.take x.2.2.1.2.1.length x.2.2.1.2.1, List.take x.2.2.1.2.2.1.length x.2.2.1.2.2.1, x.2.2.1.2.2.2.1, List.take (x.2.2.1.2.2.2.2.1.length + (1 : Nat)) (List.take x.2.2.1.2.2.2.2.1.length x.2.2.1.2.2.2.2.1 ++ [y_6]), x.2.2.1.2.2.2.2.2.1, x.2.2.1.2.2.2.2.2.2.1, x.2.2.1.2.2.2.2.2.2.2.1, x.2.2.1.2.2.2.2.2.2.2.2.1, y.1, y.2, ()), x.2.2.2.1, x.2.2.2.2.1, x.2.2.2.2.2.1, ())) (T.ret (Ex.normal, x.1, x.2.1, (List.take x.2.2.1.1.length x.2.2.1.1, List.take x.2.2.1.2.1.length x.2.2.1.2.1, List.take x.2.2.1.2.2.1.length x.2.2.1.2.2.1, x.2.2.1.2.2.2.1, List.take (x.2.2.1.2.2.2.2.1.length + (1 : Nat)) (List.take x.2.2.1.2.2.2.2.1.length x.2.2.1.2.2.2.2.1 ++ [y_6]), x.2.2.1.2.2.2.2.2.1, x.2.2.1.2.2.2.2.2.2.1, x.2.2.1.2.2.2.2.2.2.2.1, x.2.2.1.2.2.2.2.2.2.2.2.1, y.1, y.2, ()), x.2.2.2.1, x.2.2.2.2.1, W (x.2.2.2.2.2.1 + (1 : Int)), ()))) T.fail) (T.ite (ByteArray.toList y_5 == (ByteArray.mk #[(115 : UInt8), (107 : UInt8), (121 : UInt8)]).toList) T.fail (T.ite (ByteArray.toList y_5 == (ByteArray.mk #[(102 : UInt8), (105 : UInt8), (108 : UInt8), (116 : UInt8), (101 : UInt8), (114 : UInt8)]).toList) T.fail (T.ite (ByteArray.toList y_5 == (ByteArray.mk #[(112 : UInt8), (105 : UInt8), (110 : UInt8), (104 : UInt8), (111 : UInt8), (108 : UInt8), (101 : UInt8)]).toList) (T.ite (decide ((List.take (2 : Nat) [(0 : Int), (1024 : Int)]).length * nat_lit 8 ≤ most)) (T.opt (parse_point (List.take (List.take (2 : Nat) [(0 : Int), (1024 : Int)]).length (List.take (2 : Nat) [(0 : Int), (1024 : Int)]))) fun y_6 => T.ite (decide ((0 : Int) ≤ (3 : Int)) && decide ((3 : Int) ≤ (↑(List.take (2 : Nat) [(0 : Int), (1024 : Int)]).length : Int)) && decide ((↑(List.take (2 : Nat) [(0 : Int), (1024 : Int)]).length : Int) ≤ (↑(List.take (2 : Nat) [(0 : Int), (1024 : Int)]).length : Int))) (T.opt (parse_point (List.take ((↑(List.take (2 : Nat) [(0 : Int), (1024 : Int)]).length : Int).toNat - Int.toNat (3 : Int)) (List.drop ((0 : Nat) + Int.toNat (3 : Int)) (List.take (2 : Nat) [(0 : Int), (1024 : Int)])))) fun y_7 => T.ite (decide ((0 : Int) ≤ (6 : Int)) && decide ((6 : Int) ≤ (↑(List.take (2 : Nat) [(0 : Int), (1024 : Int)]).length : Int)) && decide ((↑(List.take (2 : Nat) [(0 : Int), (1024 : Int)]).length : Int) ≤ (↑(List.take (2 : Nat) [(0 : Int), (1024 : Int)]).length : Int))) (T.opt (parse_point (List.take ((↑(List.take (2 : Nat) [(0 : Int), (1024 : Int)]).length : Int).toNat - Int.toNat (6 : Int)) (List.drop ((0 : Nat) + Int.toNat (6 : Int)) (List.take (2 : Nat) [(0 : Int), (1024 : Int)])))) fun y_8 => T.ite (decide ((0 : Int) ≤ (9 : Int)) && decide ((9 : Int) < (↑(List.take (2 : Nat) [(0 : Int), (1024 : Int)]).length : Int))) (T.opt (List.take (2 : Nat) [(0 : Int), (1024 : Int)])[(0 : Nat) + Int.toNat (9 : Int)]? fun y_9 => T.ite (decide ((0 : Int) ≤ (10 : Int)) && decide ((10 : Int) < (↑(List.take (2 : Nat) [(0 : Int), (1024 : Int)]).length : Int))) (T.opt (List.take (2 : Nat) [(0 : Int), (1024 : Int)])[(0 : Nat) + Int.toNat (10 : Int)]? fun y_10 => T.ite (decide ((0 : Int) ≤ (11 : Int)) && decide ((11 : Int) < (↑(List.take (2 : Nat) [(0 : Int), (1024 : Int)]).length : Int))) (T.opt (List.take (2 : Nat) [(0 : Int), (1024 : Int)])[(0 : Nat) + Int.toNat (11 : Int)]? fun y_11 => T.ite ((mget x.2.2.1.2.2.2.2.2.2.2.2.1 (ByteArray.mk #[(99 : UInt8), (97 : UInt8), (109 : UInt8), (101 : UInt8), (114 : UInt8), (97 : UInt8)])).getD false) (T.opt (fault_New ((2 : Int), y.1)) fun y_12 => T.opt (fault_Wrap (y_12, (9 : Int), (0 : Int))) fun y_13 => T.ite (!y_13.isNil) (T.ret (Ex.ret, ([], [], [], (0 : Int), [], (((0 : Int), (0 : Int), (0 : Int)), ((0 : Int), (0 : Int), (0 : Int)), ((0 : Int), (0 : Int), (0 : Int)), (0 : Int), (0 : Int), (0 : Int)), (0 : Int), (0 : Int)), y_13, (List.take x.2.2.1.1.length x.2.2.1.1, List.take x.2.2.1.2.1.length x.2.2.1.2.1, List.take x.2.2.1.2.2.1.length x.2.2.1.2.2.1, x.2.2.1.2.2.2.1, List.take x.2.2.1.2.2.2.2.1.length x.2.2.1.2.2.2.2.1, (y_6, y_7, y_8, y_9, y_10, y_11), x.2.2.1.2.2.2.2.2.2.1, x.2.2.1.2.2.2.2.2.2.2.1, x.2.2.1.2.2.2.2.2.2.2.2.1, y.1, y.2, ()), x.2.2.2.1, x.2.2.2.2.1, x.2.2.2.2.2.1, ())) (T.ret (Ex.normal, x.1, x.2.1, (List.take x.2.2.1.1.length x.2.2.1.1, List.take x.2.2.1.2.1.length x.2.2.1.2.1, List.take x.2.2.1.2.2.1.length x.2.2.1.2.2.1, x.2.2.1.2.2.2.1, List.take x.2.2.1.2.2.2.2.1.length x.2.2.1.2.2.2.2.1, (y_6, y_7, y_8, y_9, y_10, y_11), x.2.2.1.2.2.2.2.2.2.1, x.2.2.1.2.2.2.2.2.2.2.1, x.2.2.1.2.2.2.2.2.2.2.2.1, y.1, y.2, ()), x.2.2.2.1, x.2.2.2.2.1, W (x.2.2.2.2.2.1 + (1 : Int)), ()))) (T.ite false (T.ret (Ex.ret, ([], [], [], (0 : Int), [], (((0 : Int), (0 : Int), (0 : Int)), ((0 : Int), (0 : Int), (0 : Int)), ((0 : Int), (0 : Int), (0 : Int)), (0 : Int), (0 : Int), (0 : Int)), (0 : Int), (0 : Int)), ErrD.nil, (List.take x.2.2.1.1.length x.2.2.1.1, List.take x.2.2.1.2.1.length x.2.2.1.2.1, List.take x.2.2.1.2.2.1.length x.2.2.1.2.2.1, x.2.2.1.2.2.2.1, List.take x.2.2.1.2.2.2.2.1.length x.2.2.1.2.2.2.2.1, (y_6, y_7, y_8, y_9, y_10, y_11), x.2.2.1.2.2.2.2.2.2.1, x.2.2.1.2.2.2.2.2.2.2.1, mset x.2.2.1.2.2.2.2.2.2.2.2.1 (ByteArray.mk #[(99 : UInt8), (97 : UInt8), (109 : UInt8), (101 : UInt8), (114 : UInt8), (97 : UInt8)]) true, y.1, y.2, ()), x.2.2.2.1, x.2.2.2.2.1, x.2.2.2.2.2.1, ())) (T.ret (Ex.normal, x.1, x.2.1, (List.take x.2.2.1.1.length x.2.2.1.1, List.take x.2.2.1.2.1.length x.2.2.1.2.1, List.take x.2.2.1.2.2.1.length x.2.2.1.2.2.1, x.2.2.1.2.2.2.1, List.take x.2.2.1.2.2.2.2.1.length x.2.2.1.2.2.2.2.1, (y_6, y_7, y_8, y_9, y_10, y_11), x.2.2.1.2.2.2.2.2.2.1, x.2.2.1.2.2.2.2.2.2.2.1, mset x.2.2.1.2.2.2.2.2.2.2.2.1 (ByteArray.mk #[(99 : UInt8), (97 : UInt8), (109 : UInt8), (101 : UInt8), (114 : UInt8), (97 : UInt8)]) true, y.1, y.2, ()), x.2.2.2.1, x.2.2.2.2.1, W (x.2.2.2.2.2.1 + (1 : Int)), ())))) T.fail) T.fail) T.fail) T.fail) T.fail) T.fail) (T.opt (parse_point []) fun y => T.ite (decide ((0 : Int) ≤ (3 : Int)) && decide ((3 : Int) ≤ (↑(0 : Nat) : Int)) && decide ((↑(0 : Nat) : Int) ≤ (↑(0 : Nat) : Int))) (T.opt (parse_point []) fun y => T.ite (decide ((0 : Int) ≤ (6 : Int)) && decide ((6 : Int) ≤ (↑(0 : Nat) : Int)) && decide ((↑(0 : Nat) : Int) ≤ (↑(0 : Nat) : Int))) (T.opt (parse_point []) fun y => T.fail) T.fail) T.fail)))))))))) (T.opt (numLoop.l0 (x.1, (List.take x.2.2.1.1.length x.2.2.1.1, List.take x.2.2.1.2.1.length x.2.2.1.2.1, List.take x.2.2.1.2.2.1.length x.2.2.1.2.2.1, x.2.2.1.2.2.2.1, List.take x.2.2.1.2.2.2.2.1.length x.2.2.1.2.2.2.2.1, x.2.2.1.2.2.2.2.2.1, x.2.2.1.2.2.2.2.2.2.1, x.2.2.1.2.2.2.2.2.2.2.1, x.2.2.1.2.2.2.2.2.2.2.2.1, y.1, y.2, ()), y_2.snd.fst, [], ErrD.nil, [], List.take ((↑(List.length y.2) : Int).toNat - Int.toNat (1 : Int)) (List.drop (Int.toNat (1 : Int)) y.2), (↑(List.take ((↑(List.length y.2) : Int).toNat - Int.toNat (1 : Int)) (List.drop (Int.toNat (1 : Int)) y.2)).length : Int), (0 : Int), ())) fun y => T.ite (exEq y.1 (Ex.exit (0 : Nat))) (T.ite false (T.ite false (T.ret (Ex.ret, ([], [], [], (0 : Int), [], (((0 : Int), (0 : Int), (0 : Int)), ((0 : Int), (0 : Int), (0 : Int)), ((0 : Int), (0 : Int), (0 : Int)), (0 : Int), (0 : Int), (0 : Int)), (0 : Int), (0 : Int)), ErrD.nil, (List.take y.2.2.1.1.length y.2.2.1.1, List.take y.2.2.1.2.1.length y.2.2.1.2.1, List.take y.2.2.1.2.2.1.length y.2.2.1.2.2.1, y.2.2.1.2.2.2.1, List.take y.2.2.1.2.2.2.2.1.length y.2.2.1.2.2.2.2.1, y.2.2.1.2.2.2.2.2.1, y.2.2.1.2.2.2.2.2.2.1, y.2.2.1.2.2.2.2.2.2.2.1, y.2.2.1.2.2.2.2.2.2.2.2.1, y.2.2.1.2.2.2.2.2.2.2.2.2.1, y.2.2.1.2.2.2.2.2.2.2.2.2.2.1, ()), x.2.2.2.1, x.2.2.2.2.1, x.2.2.2.2.2.1, ())) (T.ret (Ex.normal, y.2.1, x.2.1, (List.take y.2.2.1.1.length y.2.2.1.1, List.take y.2.2.1.2.1.length y.2.2.1.2.1, List.take y.2.2.1.2.2.1.length y.2.2.1.2.2.1, y.2.2.1.2.2.2.1, List.take y.2.2.1.2.2.2.2.1.length y.2.2.1.2.2.2.2.1, y.2.2.1.2.2.2.2.2.1, y.2.2.1.2.2.2.2.2.2.1, y.2.2.1.2.2.2.2.2.2.2.1, y.2.2.1.2.2.2.2.2.2.2.2.1, y.2.2.1.2.2.2.2.2.2.2.2.2.1, y.2.2.1.2.2.2.2.2.2.2.2.2.2.1, ()), x.2.2.2.1, x.2.2.2.2.1, W (x.2.2.2.2.2.1 + (1 : Int)), ()))) (T.opt (lget y.2.2.1.2.2.2.2.2.2.2.2.2.2.1 (0 : Int)) fun y_3 => T.ite (ByteArray.toList y_3 == (ByteArray.mk #[(109 : UInt8), (97 : UInt8), (116 : UInt8), (116 : UInt8)]).toList) (T.ite (decide ((y.2.2.2.2.2.2.1.length + (List.take (4 : Nat) [(0 : Int), (0 : Int), (0 : Int), (1024 : Int)]).length) * nat_lit 8 ≤ most)) (T.opt (parse_point (List.take (y.2.2.2.2.2.2.1.length + (List.take (4 : Nat) [(0 : Int), (0 : Int), (0 : Int), (1024 : Int)]).length) (List.take y.2.2.2.2.2.2.1.length y.2.2.2.2.2.2.1 ++ List.take (4 : Nat) [(0 : Int), (0 : Int), (0 : Int), (1024 : Int)]))) fun y_4 => T.ite (decide ((0 : Int) ≤ (3 : Int)) && decide ((3 : Int) ≤ (↑(y.2.2.2.2.2.2.1.length + (List.take (4 : Nat) [(0 : Int), (0 : Int), (0 : Int), (1024 : Int)]).length) : Int)) && decide ((↑(y.2.2.2.2.2.2.1.length + (List.take (4 : Nat) [(0 : Int), (0 : Int), (0 : Int), (1024 : Int)]).length) : Int) ≤ (↑(y.2.2.2.2.2.2.1.length + (List.take (4 : Nat) [(0 : Int), (0 : Int), (0 : Int), (1024 : Int)]).length) : Int))) (T.opt (parse_point (List.take ((↑(y.2.2.2.2.2.2.1.length + (List.take (4 : Nat) [(0 : Int), (0 : Int), (0 : Int), (1024 : Int)]).length) : Int).toNat - Int.toNat (3 : Int)) (List.drop ((0 : Nat) + Int.toNat (3 : Int)) (List.take y.2.2.2.2.2.2.1.length y.2.2.2.2.2.2.1 ++ List.take (4 : Nat) [(0 : Int), (0 : Int), (0 : Int), (1024 : Int)])))) fun y_5 => T.ite (decide ((0 : Int) ≤ (6 : Int)) && decide ((6 : Int) < (↑(y.2.2.2.2.2.2.1.length + (List.take (4 : Nat) [(0 : Int), (0 : Int), (0 : Int), (1024 : Int)]).length) : Int))) (T.opt (List.take y.2.2.2.2.2.2.1.length y.2.2.2.2.2.2.1 ++ List.take (4 : Nat) [(0 : Int), (0 : Int), (0 : Int), (1024 : Int)])[(0 : Nat) + Int.toNat (6 : Int)]? fun y_6 => T.ite (decide ((y.2.2.1.1.length + (1 : Nat)) * nat_lit 56 ≤ most)) (T.ite false (T.ret (Ex.ret, ([], [], [], (0 : Int), [], (((0 : Int), (0 : Int), (0 : Int)), ((0 : Int), (0 : Int), (0 : Int)), ((0 : Int), (0 : Int), (0 : Int)), (0 : Int), (0 : Int), (0 : Int)), (0 : Int), (0 : Int)), ErrD.nil, (List.take (y.2.2.1.1.length + (1 : Nat)) (List.take y.2.2.1.1.length y.2.2.1.1 ++ [(y_4, y_5, y_6)]), List.take y.2.2.1.2.1.length y.2.2.1.2.1, List.take y.2.2.1.2.2.1.length y.2.2.1.2.2.1, y.2.2.1.2.2.2.1, List.take y.2.2.1.2.2.2.2.1.length y.2.2.1.2.2.2.2.1, y.2.2.1.2.2.2.2.2.1, y.2.2.1.2.2.2.2.2.2.1, y.2.2.1.2.2.2.2.2.2.2.1, y.2.2.1.2.2.2.2.2.2.2.2.1, y.2.2.1.2.2.2.2.2.2.2.2.2.1, y.2.2.1.2.2.2.2.2.2.2.2.2.2.1, ()), x.2.2.2.1, x.2.2.2.2.1, x.2.2.2.2.2.1, ())) (T.ret (Ex.normal, y.2.1, x.2.1, (List.take (y.2.2.1.1.length + (1 : Nat)) (List.take y.2.2.1.1.length y.2.2.1.1 ++ [(y_4, y_5, y_6)]), List.take y.2.2.1.2.1.length y.2.2.1.2.1, List.take y.2.2.1.2.2.1.length y.2.2.1.2.2.1, y.2.2.1.2.2.2.1, List.take y.2.2.1.2.2.2.2.1.length y.2.2.1.2.2.2.2.1, y.2.2.1.2.2.2.2.2.1, y.2.2.1.2.2.2.2.2.2.1, y.2.2.1.2.2.2.2.2.2.2.1, y.2.2.1.2.2.2.2.2.2.2.2.1, y.2.2.1.2.2.2.2.2.2.2.2.2.1, y.2.2.1.2.2.2.2.2.2.2.2.2.2.1, ()), x.2.2.2.1, x.2.2.2.2.1, W (x.2.2.2.2.2.1 + (1 : Int)), ()))) T.fail) T.fail) T.fail) T.fail) (T.ite (ByteArray.toList y_3 == (ByteArray.mk #[(109 : UInt8), (97 : UInt8), (116 : UInt8)]).toList) (T.opt (parse_point (List.take y.2.2.2.2.2.2.1.length y.2.2.2.2.2.2.1)) fun y_4 => T.ite (decide ((0 : Int) ≤ (3 : Int)) && decide ((3 : Int) ≤ (↑y.2.2.2.2.2.2.1.length : Int)) && decide ((↑y.2.2.2.2.2.2.1.length : Int) ≤ (↑y.2.2.2.2.2.2.1.length : Int))) (T.opt (parse_point (List.take ((↑y.2.2.2.2.2.2.1.length : Int).toNat - Int.toNat (3 : Int)) (List.drop ((0 : Nat) + Int.toNat (3 : Int)) y.2.2.2.2.2.2.1))) fun y_5 => T.ite (decide ((0 : Int) ≤ (6 : Int)) && decide ((6 : Int) < (↑y.2.2.2.2.2.2.1.length : Int))) (T.opt y.2.2.2.2.2.2.1[(0 : Nat) + Int.toNat (6 : Int)]? fun y_6 => T.ite (decide ((y.2.2.1.1.length + (1 : Nat)) * nat_lit 56 ≤ most)) (T.ite false (T.ret (Ex.ret, ([], [], [], (0 : Int), [], (((0 : Int), (0 : Int), (0 : Int)), ((0 : Int), (0 : Int), (0 : Int)), ((0 : Int), (0 : Int), (0 : Int)), (0 : Int), (0 : Int), (0 : Int)), (0 : Int), (0 : Int)), ErrD.nil, (List.take (y.2.2.1.1.length + (1 : Nat)) (List.take y.2.2.1.1.length y.2.2.1.1 ++ [(y_4, y_5, y_6)]), List.take y.2.2.1.2.1.length y.2.2.1.2.1, List.take y.2.2.1.2.2.1.length y.2.2.1.2.2.1, y.2.2.1.2.2.2.1, List.take y.2.2.1.2.2.2.2.1.length y.2.2.1.2.2.2.2.1, y.2.2.1.2.2.2.2.2.1, y.2.2.1.2.2.2.2.2.2.1, y.2.2.1.2.2.2.2.2.2.2.1, y.2.2.1.2.2.2.2.2.2.2.2.1, y.2.2.1.2.2.2.2.2.2.2.2.2.1, y.2.2.1.2.2.2.2.2.2.2.2.2.2.1, ()), x.2.2.2.1, x.2.2.2.2.1, x.2.2.2.2.2.1, ())) (T.ret (Ex.normal, y.2.1, x.2.1, (List.take (y.2.2.1.1.length + (1 : Nat)) (List.take y.2.2.1.1.length y.2.2.1.1 ++ [(y_4, y_5, y_6)]), List.take y.2.2.1.2.1.length y.2.2.1.2.1, List.take y.2.2.1.2.2.1.length y.2.2.1.2.2.1, y.2.2.1.2.2.2.1, List.take y.2.2.1.2.2.2.2.1.length y.2.2.1.2.2.2.2.1, y.2.2.1.2.2.2.2.2.1, y.2.2.1.2.2.2.2.2.2.1, y.2.2.1.2.2.2.2.2.2.2.1, y.2.2.1.2.2.2.2.2.2.2.2.1, y.2.2.1.2.2.2.2.2.2.2.2.2.1, y.2.2.1.2.2.2.2.2.2.2.2.2.2.1, ()), x.2.2.2.1, x.2.2.2.2.1, W (x.2.2.2.2.2.1 + (1 : Int)), ()))) T.fail) T.fail) T.fail) (T.ite (ByteArray.toList y_3 == (ByteArray.mk #[(116 : UInt8), (114 : UInt8), (105 : UInt8)]).toList) (T.ite (decide ((0 : Int) ≤ (1 : Int)) && decide ((1 : Int) ≤ (↑y.2.2.2.2.2.2.1.length : Int)) && decide ((↑y.2.2.2.2.2.2.1.length : Int) ≤ (↑y.2.2.2.2.2.2.1.length : Int))) (T.opt (parse_point (List.take ((↑y.2.2.2.2.2.2.1.length : Int).toNat - Int.toNat (1 : Int)) (List.drop ((0 : Nat) + Int.toNat (1 : Int)) y.2.2.2.2.2.2.1))) fun y_4 => T.ite (decide ((0 : Int) ≤ (4 : Int)) && decide ((4 : Int) ≤ (↑y.2.2.2.2.2.2.1.length : Int)) && decide ((↑y.2.2.2.2.2.2.1.length : Int) ≤ (↑y.2.2.2.2.2.2.1.length : Int))) (T.opt (parse_point (List.take ((↑y.2.2.2.2.2.2.1.length : Int).toNat - Int.toNat (4 : Int)) (List.drop ((0 : Nat) + Int.toNat (4 : Int)) y.2.2.2.2.2.2.1))) fun y_5 => T.ite (decide ((0 : Int) ≤ (7 : Int)) && decide ((7 : Int) ≤ (↑y.2.2.2.2.2.2.1.length : Int)) && decide ((↑y.2.2.2.2.2.2.1.length : Int) ≤ (↑y.2.2.2.2.2.2.1.length : Int))) (T.opt (parse_point (List.take ((↑y.2.2.2.2.2.2.1.length : Int).toNat - Int.toNat (7 : Int)) (List.drop ((0 : Nat) + Int.toNat (7 : Int)) y.2.2.2.2.2.2.1))) fun y_6 => T.ite (decide ((0 : Int) ≤ (0 : Int)) && decide ((0 : Int) < (↑y.2.2.2.2.2.2.1.length : Int))) (T.opt y.2.2.2.2.2.2.1[(0 : Nat) + Int.toNat (0 : Int)]? fun y_7 => T.ite (decide ((y.2.2.1.2.1.length + (1 : Nat)) * nat_lit 80 ≤ most)) (T.ite false (T.ret (Ex.ret, ([], [], [], (0 : Int), [], (((0 : Int), (0 : Int), (0 : Int)), ((0 : Int), (0 : Int), (0 : Int)), ((0 : Int), (0 : Int), (0 : Int)), (0 : Int), (0 : Int), (0 : Int)), (0 : Int), (0 : Int)), ErrD.nil, (List.take y.2.2.1.1.length y.2.2.1.1, List.take (y.2.2.1.2.1.length + (1 : Nat)) (List.take y.2.2.1.2.1.length y.2.2.1.2.1 ++ [(y_4, y_5, y_6, y_7)]), List.take y.2.2.1.2.2.1.length y.2.2.1.2.2.1, y.2.2.1.2.2.2.1, List.take y.2.2.1.2.2.2.2.1.length y.2.2.1.2.2.2.2.1, y.2.2.1.2.2.2.2.2.1, y.2.2.1.2.2.2.2.2.2.1, y.2.2.1.2.2.2.2.2.2.2.1, y.2.2.1.2.2.2.2.2.2.2.2.1, y.2.2.1.2.2.2.2.2.2.2.2.2.1, y.2.2.1.2.2.2.2.2.2.2.2.2.2.1, ()), x.2.2.2.1, x.2.2.2.2.1, x.2.2.2.2.2.1, ())) (T.ret (Ex.normal, y.2.1, x.2.1, (List.take y.2.2.1.1.length y.2.2.1.1, List.take (y.2.2.1.2.1.length + (1 : Nat)) (List.take y.2.2.1.2.1.length y.2.2.1.2.1 ++ [(y_4, y_5, y_6, y_7)]), List.take y.2.2.1.2.2.1.length y.2.2.1.2.2.1, y.2.2.1.2.2.2.1, List.take y.2.2.1.2.2.2.2.1.length y.2.2.1.2.2.2.2.1, y.2.2.1.2.2.2.2.2.1, y.2.2.1.2.2.2.2.2.2.1, y.2.2.1.2.2.2.2.2.2.2.1, y.2.2.1.2.2.2.2.2.2.2.2.1, y.2.2.1.2.2.2.2.2.2.2.2.2.1, y.2.2.1.2.2.2.2.2.2.2.2.2.2.1, ()), x.2.2.2.1, x.2.2.2.2.1, W (x.2.2.2.2.2.1 + (1 : Int)), ()))) T.fail) T.fail) T.fail) T.fail) T.fail) (T.ite (ByteArray.toList y_3 == (ByteArray.mk #[(108 : UInt8), (105 : UInt8), (103 : UInt8), (104 : UInt8), (116 : UInt8)]).toList) (T.ite (decide ((0 : Int) ≤ (0 : Int)) && decide ((0 : Int) < (↑y.2.2.2.2.2.2.1.length : Int))) (T.opt y.2.2.2.2.2.2.1[(0 : Nat) + Int.toNat (0 : Int)]? fun y_4 => T.ite (decide ((0 : Int) ≤ (1 : Int)) && decide ((1 : Int) ≤ (↑y.2.2.2.2.2.2.1.length : Int)) && decide ((↑y.2.2.2.2.2.2.1.length : Int) ≤ (↑y.2.2.2.2.2.2.1.length : Int))) (T.opt (parse_point (List.take ((↑y.2.2.2.2.2.2.1.length : Int).toNat - Int.toNat (1 : Int)) (List.drop ((0 : Nat) + Int.toNat (1 : Int)) y.2.2.2.2.2.2.1))) fun y_5 => T.ite (decide ((y.2.2.1.2.2.1.length + (1 : Nat)) * nat_lit 32 ≤ most)) (T.ite false (T.ret (Ex.ret, ([], [], [], (0 : Int), [], (((0 : Int), (0 : Int), (0 : Int)), ((0 : Int), (0 : Int), (0 : Int)), ((0 : Int), (0 : Int), (0 : Int)), (0 : Int), (0 : Int), (0 : Int)), (0 : Int), (0 : Int)), ErrD.nil, (List.take y.2.2.1.1.length y.2.2.1.1, List.take y.2.2.1.2.1.length y.2.2.1.2.1, List.take (y.2.2.1.2.2.1.length + (1 : Nat)) (List.take y.2.2.1.2.2.1.length y.2.2.1.2.2.1 ++ [(y_4, y_5)]), y.2.2.1.2.2.2.1, List.take y.2.2.1.2.2.2.2.1.length y.2.2.1.2.2.2.2.1, y.2.2.1.2.2.2.2.2.1, y.2.2.1.2.2.2.2.2.2.1, y.2.2.1.2.2.2.2.2.2.2.1, y.2.2.1.2.2.2.2.2.2.2.2.1, y.2.2.1.2.2.2.2.2.2.2.2.2.1, y.2.2.1.2.2.2.2.2.2.2.2.2.2.1, ()), x.2.2.2.1, x.2.2.2.2.1, x.2.2.2.2.2.1, ())) (T.ret (Ex.normal, y.2.1, x.2.1, (List.take y.2.2.1.1.length y.2.2.1.1, List.take y.2.2.1.2.1.length y.2.2.1.2.1, List.take (y.2.2.1.2.2.1.length + (1 : Nat)) (List.take y.2.2.1.2.2.1.length y.2.2.1.2.2.1 ++ [(y_4, y_5)]), y.2.2.1.2.2.2.1, List.take y.2.2.1.2.2.2.2.1.length y.2.2.1.2.2.2.2.1, y.2.2.1.2.2.2.2.2.1, y.2.2.1.2.2.2.2.2.2.1, y.2.2.1.2.2.2.2.2.2.2.1, y.2.2.1.2.2.2.2.2.2.2.2.1, y.2.2.1.2.2.2.2.2.2.2.2.2.1, y.2.2.1.2.2.2.2.2.2.2.2.2.2.1, ()), x.2.2.2.1, x.2.2.2.2.1, W (x.2.2.2.2.2.1 + (1 : Int)), ()))) T.fail) T.fail) T.fail) (T.ite (ByteArray.toList y_3 == (ByteArray.mk #[(99 : UInt8), (101 : UInt8), (108 : UInt8), (108 : UInt8)]).toList) (T.opt (parse_point (List.take y.2.2.2.2.2.2.1.length y.2.2.2.2.2.2.1)) fun y_4 => T.ite (decide ((y.2.2.1.2.2.2.2.1.length + (1 : Nat)) * nat_lit 24 ≤ most)) (T.ite false (T.ret (Ex.ret, ([], [], [], (0 : Int), [], (((0 : Int), (0 : Int), (0 : Int)), ((0 : Int), (0 : Int), (0 : Int)), ((0 : Int), (0 : Int), (0 : Int)), (0 : Int), (0 : Int), (0 : Int)), (0 : Int), (0 : Int)), ErrD.nil, (List.take y.2.2.1.1.length y.2.2.1.1, List.take y.2.2.1.2.1.length y.2.2.1.2.1, List.take y.2.2.1.2.2.1.length y.2.2.1.2.2.1, y.2.2.1.2.2.2.1, List.take (y.2.2.1.2.2.2.2.1.length + (1 : Nat)) (List.take y.2.2.1.2.2.2.2.1.length y.2.2.1.2.2.2.2.1 ++ [y_4]), y.2.2.1.2.2.2.2.2.1, y.2.2.1.2.2.2.2.2.2.1, y.2.2.1.2.2.2.2.2.2.2.1, y.2.2.1.2.2.2.2.2.2.2.2.1, y.2.2.1.2.2.2.2.2.2.2.2.2.1, y.2.2.1.2.2.2.2.2.2.2.2.2.2.1, ()), x.2.2.2.1, x.2.2.2.2.1, x.2.2.2.2.2.1, ())) (T.ret (Ex.normal, y.2.1, x.2.1, (List.take y.2.2.1.1.length y.2.2.1.1, List.take y.2.2.1.2.1.length y.2.2.1.2.1, List.take y.2.2.1.2.2.1.length y.2.2.1.2.2.1, y.2.2.1.2.2.2.1, List.take (y.2.2.1.2.2.2.2.1.length + (1 : Nat)) (List.take y.2.2.1.2.2.2.2.1.length y.2.2.1.2.2.2.2.1 ++ [y_4]), y.2.2.1.2.2.2.2.2.1, y.2.2.1.2.2.2.2.2.2.1, y.2.2.1.2.2.2.2.2.2.2.1, y.2.2.1.2.2.2.2.2.2.2.2.1, y.2.2.1.2.2.2.2.2.2.2.2.2.1, y.2.2.1.2.2.2.2.2.2.2.2.2.2.1, ()), x.2.2.2.1, x.2.2.2.2.1, W (x.2.2.2.2.2.1 + (1 : Int)), ()))) T.fail) (T.ite (ByteArray.toList y_3 == (ByteArray.mk #[(115 : UInt8), (107 : UInt8), (121 : UInt8)]).toList) (T.ite (decide ((0 : Int) ≤ (0 : Int)) && decide ((0 : Int) < (↑y.2.2.2.2.2.2.1.length : Int))) (T.opt y.2.2.2.2.2.2.1[(0 : Nat) + Int.toNat (0 : Int)]? fun y_4 => T.ite ((mget y.2.2.1.2.2.2.2.2.2.2.2.1 (ByteArray.mk #[(115 : UInt8), (107 : UInt8), (121 : UInt8)])).getD false) (T.opt (fault_New ((2 : Int), y.2.2.1.2.2.2.2.2.2.2.2.2.1)) fun y_5 => T.opt (fault_Wrap (y_5, (9 : Int), (0 : Int))) fun y_6 => T.ite (!y_6.isNil) (T.ret (Ex.ret, ([], [], [], (0 : Int), [], (((0 : Int), (0 : Int), (0 : Int)), ((0 : Int), (0 : Int), (0 : Int)), ((0 : Int), (0 : Int), (0 : Int)), (0 : Int), (0 : Int), (0 : Int)), (0 : Int), (0 : Int)), y_6, (List.take y.2.2.1.1.length y.2.2.1.1, List.take y.2.2.1.2.1.length y.2.2.1.2.1, List.take y.2.2.1.2.2.1.length y.2.2.1.2.2.1, y_4, List.take y.2.2.1.2.2.2.2.1.length y.2.2.1.2.2.2.2.1, y.2.2.1.2.2.2.2.2.1, y.2.2.1.2.2.2.2.2.2.1, y.2.2.1.2.2.2.2.2.2.2.1, y.2.2.1.2.2.2.2.2.2.2.2.1, y.2.2.1.2.2.2.2.2.2.2.2.2.1, y.2.2.1.2.2.2.2.2.2.2.2.2.2.1, ()), x.2.2.2.1, x.2.2.2.2.1, x.2.2.2.2.2.1, ())) (T.ret (Ex.normal, y.2.1, x.2.1, (List.take y.2.2.1.1.length y.2.2.1.1, List.take y.2.2.1.2.1.length y.2.2.1.2.1, List.take y.2.2.1.2.2.1.length y.2.2.1.2.2.1, y_4, List.take y.2.2.1.2.2.2.2.1.length y.2.2.1.2.2.2.2.1, y.2.2.1.2.2.2.2.2.1, y.2.2.1.2.2.2.2.2.2.1, y.2.2.1.2.2.2.2.2.2.2.1, y.2.2.1.2.2.2.2.2.2.2.2.1, y.2.2.1.2.2.2.2.2.2.2.2.2.1, y.2.2.1.2.2.2.2.2.2.2.2.2.2.1, ()), x.2.2.2.1, x.2.2.2.2.1, W (x.2.2.2.2.2.1 + (1 : Int)), ()))) (T.ite false (T.ret (Ex.ret, ([], [], [], (0 : Int), [], (((0 : Int), (0 : Int), (0 : Int)), ((0 : Int), (0 : Int), (0 : Int)), ((0 : Int), (0 : Int), (0 : Int)), (0 : Int), (0 : Int), (0 : Int)), (0 : Int), (0 : Int)), ErrD.nil, (List.take y.2.2.1.1.length y.2.2.1.1, List.take y.2.2.1.2.1.length y.2.2.1.2.1, List.take y.2.2.1.2.2.1.length y.2.2.1.2.2.1, y_4, List.take y.2.2.1.2.2.2.2.1.length y.2.2.1.2.2.2.2.1, y.2.2.1.2.2.2.2.2.1, y.2.2.1.2.2.2.2.2.2.1, y.2.2.1.2.2.2.2.2.2.2.1, mset y.2.2.1.2.2.2.2.2.2.2.2.1 (ByteArray.mk #[(115 : UInt8), (107 : UInt8), (121 : UInt8)]) true, y.2.2.1.2.2.2.2.2.2.2.2.2.1, y.2.2.1.2.2.2.2.2.2.2.2.2.2.1, ()), x.2.2.2.1, x.2.2.2.2.1, x.2.2.2.2.2.1, ())) (T.ret (Ex.normal, y.2.1, x.2.1, (List.take y.2.2.1.1.length y.2.2.1.1, List.take y.2.2.1.2.1.length y.2.2.1.2.1, List.take y.2.2.1.2.2.1.length y.2.2.1.2.2.1, y_4, List.take y.2.2.1.2.2.2.2.1.length y.2.2.1.2.2.2.2.1, y.2.2.1.2.2.2.2.2.1, y.2.2.1.2.2.2.2.2.2.1, y.2.2.1.2.2.2.2.2.2.2.1, mset y.2.2.1.2.2.2.2.2.2.2.2.1 (ByteArray.mk #[(115 : UInt8), (107 : UInt8), (121 : UInt8)]) true, y.2.2.1.2.2.2.2.2.2.2.2.2.1, y.2.2.1.2.2.2.2.2.2.2.2.2.2.1, ()), x.2.2.2.1, x.2.2.2.2.1, W (x.2.2.2.2.2.1 + (1 : Int)), ())))) T.fail) (T.ite (ByteArray.toList y_3 == (ByteArray.mk #[(102 : UInt8), (105 : UInt8), (108 : UInt8), (116 : UInt8), (101 : UInt8), (114 : UInt8)]).toList) (T.ite (decide ((0 : Int) ≤ (0 : Int)) && decide ((0 : Int) < (↑y.2.2.2.2.2.2.1.length : Int))) (T.opt y.2.2.2.2.2.2.1[(0 : Nat) + Int.toNat (0 : Int)]? fun y_4 => T.ite (decide ((0 : Int) ≤ (1 : Int)) && decide ((1 : Int) < (↑y.2.2.2.2.2.2.1.length : Int))) (T.opt y.2.2.2.2.2.2.1[(0 : Nat) + Int.toNat (1 : Int)]? fun y_5 => T.ite ((mget y.2.2.1.2.2.2.2.2.2.2.2.1 (ByteArray.mk #[(102 : UInt8), (105 : UInt8), (108 : UInt8), (116 : UInt8), (101 : UInt8), (114 : UInt8)])).getD false) (T.opt (fault_New ((2 : Int), y.2.2.1.2.2.2.2.2.2.2.2.2.1)) fun y_6 => T.opt (fault_Wrap (y_6, (9 : Int), (0 : Int))) fun y_7 => T.ite (!y_7.isNil) (T.ret (Ex.ret, ([], [], [], (0 : Int), [], (((0 : Int), (0 : Int), (0 : Int)), ((0 : Int), (0 : Int), (0 : Int)), ((0 : Int), (0 : Int), (0 : Int)), (0 : Int), (0 : Int), (0 : Int)), (0 : Int), (0 : Int)), y_7, (List.take y.2.2.1.1.length y.2.2.1.1, List.take y.2.2.1.2.1.length y.2.2.1.2.1, List.take y.2.2.1.2.2.1.length y.2.2.1.2.2.1, y.2.2.1.2.2.2.1, List.take y.2.2.1.2.2.2.2.1.length y.2.2.1.2.2.2.2.1, y.2.2.1.2.2.2.2.2.1, y_4, y_5, y.2.2.1.2.2.2.2.2.2.2.2.1, y.2.2.1.2.2.2.2.2.2.2.2.2.1, y.2.2.1.2.2.2.2.2.2.2.2.2.2.1, ()), x.2.2.2.1, x.2.2.2.2.1, x.2.2.2.2.2.1, ())) (T.ret (Ex.normal, y.2.1, x.2.1, (List.take y.2.2.1.1.length y.2.2.1.1, List.take y.2.2.1.2.1.length y.2.2.1.2.1, List.take y.2.2.1.2.2.1.length y.2.2.1.2.2.1, y.2.2.1.2.2.2.1, List.take y.2.2.1.2.2.2.2.1.length y.2.2.1.2.2.2.2.1, y.2.2.1.2.2.2.2.2.1, y_4, y_5, y.2.2.1.2.2.2.2.2.2.2.2.1, y.2.2.1.2.2.2.2.2.2.2.2.2.1, y.2.2.1.2.2.2.2.2.2.2.2.2.2.1, ()), x.2.2.2.1, x.2.2.2.2.1, W (x.2.2.2.2.2.1 + (1 : Int)), ()))) (T.ite false (T.ret (Ex.ret, ([], [], [], (0 : Int), [], (((0 : Int), (0 : Int), (0 : Int)), ((0 : Int), (0 : Int), (0 : Int)), ((0 : Int), (0 : Int), (0 : Int)), (0 : Int), (0 : Int), (0 : Int)), (0 : Int), (0 : Int)), ErrD.nil, (List.take y.2.2.1.1.length y.2.2.1.1, List.take y.2.2.1.2.1.length y.2.2.1.2.1, List.take y.2.2.1.2.2.1.length y.2.2.1.2.2.1, y.2.2.1.2.2.2.1, List.take y.2.2.1.2.2.2.2.1.length y.2.2.1.2.2.2.2.1, y.2.2.1.2.2.2.2.2.1, y_4, y_5, mset y.2.2.1.2.2.2.2.2.2.2.2.1 (ByteArray.mk #[(102 : UInt8), (105 : UInt8), (108 : UInt8), (116 : UInt8), (101 : UInt8), (114 : UInt8)]) true, y.2.2.1.2.2.2.2.2.2.2.2.2.1, y.2.2.1.2.2.2.2.2.2.2.2.2.2.1, ()), x.2.2.2.1, x.2.2.2.2.1, x.2.2.2.2.2.1, ())) (T.ret (Ex.normal, y.2.1, x.2.1, (List.take y.2.2.1.1.length y.2.2.1.1, List.take y.2.2.1.2.1.length y.2.2.1.2.1, List.take y.2.2.1.2.2.1.length y.2.2.1.2.2.1, y.2.2.1.2.2.2.1, List.take y.2.2.1.2.2.2.2.1.length y.2.2.1.2.2.2.2.1, y.2.2.1.2.2.2.2.2.1, y_4, y_5, mset y.2.2.1.2.2.2.2.2.2.2.2.1 (ByteArray.mk #[(102 : UInt8), (105 : UInt8), (108 : UInt8), (116 : UInt8), (101 : UInt8), (114 : UInt8)]) true, y.2.2.1.2.2.2.2.2.2.2.2.2.1, y.2.2.1.2.2.2.2.2.2.2.2.2.2.1, ()), x.2.2.2.1, x.2.2.2.2.1, W (x.2.2.2.2.2.1 + (1 : Int)), ())))) T.fail) T.fail) (T.ite (ByteArray.toList y_3 == (ByteArray.mk #[(112 : UInt8), (105 : UInt8), (110 : UInt8), (104 : UInt8), (111 : UInt8), (108 : UInt8), (101 : UInt8)]).toList) (T.ite (decide ((y.2.2.2.2.2.2.1.length + (List.take (2 : Nat) [(0 : Int), (1024 : Int)]).length) * nat_lit 8 ≤ most)) (T.opt (parse_point (List.take (y.2.2.2.2.2.2.1.length + (List.take (2 : Nat) [(0 : Int), (1024 : Int)]).length) (List.take y.2.2.2.2.2.2.1.length y.2.2.2.2.2.2.1 ++ List.take (2 : Nat) [(0 : Int), (1024 : Int)]))) fun y_4 => T.ite (decide ((0 : Int) ≤ (3 : Int)) && decide ((3 : Int) ≤ (↑(y.2.2.2.2.2.2.1.length + (List.take (2 : Nat) [(0 : Int), (1024 : Int)]).length) : Int)) && decide ((↑(y.2.2.2.2.2.2.1.length + (List.take (2 : Nat) [(0 : Int), (1024 : Int)]).length) : Int) ≤ (↑(y.2.2.2.2.2.2.1.length + (List.take (2 : Nat) [(0 : Int), (1024 : Int)]).length) : Int))) (T.opt (parse_point (List.take ((↑(y.2.2.2.2.2.2.1.length + (List.take (2 : Nat) [(0 : Int), (1024 : Int)]).length) : Int).toNat - Int.toNat (3 : Int)) (List.drop ((0 : Nat) + Int.toNat (3 : Int)) (List.take y.2.2.2.2.2.2.1.length y.2.2.2.2.2.2.1 ++ List.take (2 : Nat) [(0 : Int), (1024 : Int)])))) fun y_5 => T.ite (decide ((0 : Int) ≤ (6 : Int)) && decide ((6 : Int) ≤ (↑(y.2.2.2.2.2.2.1.length + (List.take (2 : Nat) [(0 : Int), (1024 : Int)]).length) : Int)) && decide ((↑(y.2.2.2.2.2.2.1.length + (List.take (2 : Nat) [(0 : Int), (1024 : Int)]).length) : Int) ≤ (↑(y.2.2.2.2.2.2.1.length + (List.take (2 : Nat) [(0 : Int), (1024 : Int)]).length) : Int))) (T.opt (parse_point (List.take ((↑(y.2.2.2.2.2.2.1.length + (List.take (2 : Nat) [(0 : Int), (1024 : Int)]).length) : Int).toNat - Int.toNat (6 : Int)) (List.drop ((0 : Nat) + Int.toNat (6 : Int)) (List.take y.2.2.2.2.2.2.1.length y.2.2.2.2.2.2.1 ++ List.take (2 : Nat) [(0 : Int), (1024 : Int)])))) fun y_6 => T.ite (decide ((0 : Int) ≤ (9 : Int)) && decide ((9 : Int) < (↑(y.2.2.2.2.2.2.1.length + (List.take (2 : Nat) [(0 : Int), (1024 : Int)]).length) : Int))) (T.opt (List.take y.2.2.2.2.2.2.1.length y.2.2.2.2.2.2.1 ++ List.take (2 : Nat) [(0 : Int), (1024 : Int)])[(0 : Nat) + Int.toNat (9 : Int)]? fun y_7 => T.ite (decide ((0 : Int) ≤ (10 : Int)) && decide ((10 : Int) < (↑(y.2.2.2.2.2.2.1.length + (List.take (2 : Nat) [(0 : Int), (1024 : Int)]).length) : Int))) (T.opt (List.take y.2.2.2.2.2.2.1.length y.2.2.2.2.2.2.1 ++ List.take (2 : Nat) [(0 : Int), (1024 : Int)])[(0 : Nat) + Int.toNat (10 : Int)]? fun y_8 => T.ite (decide ((0 : Int) ≤ (11 : Int)) && decide ((11 : Int) < (↑(y.2.2.2.2.2.2.1.length + (List.take (2 : Nat) [(0 : Int), (1024 : Int)]).length) : Int))) (T.opt (List.take y.2.2.2.2.2.2.1.length y.2.2.2.2.2.2.1 ++ List.take (2 : Nat) [(0 : Int), (1024 : Int)])[(0 : Nat) + Int.toNat (11 : Int)]? fun y_9 => T.ite ((mget y.2.2.1.2.2.2.2.2.2.2.2.1 (ByteArray.mk #[(99 : UInt8), (97 : UInt8), (109 : UInt8), (101 : UInt8), (114 : UInt8), (97 : UInt8)])).getD false) (T.opt (fault_New ((2 : Int), y.2.2.1.2.2.2.2.2.2.2.2.2.1)) fun y_10 => T.opt (fault_Wrap (y_10, (9 : Int), (0 : Int))) fun y_11 => T.ite (!y_11.isNil) (T.ret (Ex.ret, ([], [], [], (0 : Int), [], (((0 : Int), (0 : Int), (0 : Int)), ((0 : Int), (0 : Int), (0 : Int)), ((0 : Int), (0 : Int), (0 : Int)), (0 : Int), (0 : Int), (0 : Int)), (0 : Int), (0 : Int)), y_11, (List.take y.2.2.1.1.length y.2.2.1.1, List.take y.2.2.1.2.1.length y.2.2.1.2.1, List.take y.2.2.1.2.2.1.length y.2.2.1.2.2.1, y.2.2.1.2.2.2.1, List.take y.2.2.1.2.2.2.2.1.length y.2.2.1.2.2.2.2.1, (y_4, y_5, y_6, y_7, y_8, y_9), y.2.2.1.2.2.2.2.2.2.1, y.2.2.1.2.2.2.2.2.2.2.1, y.2.2.1.2.2.2.2.2.2.2.2.1, y.2.2.1.2.2.2.2.2.2.2.2.2.1, y.2.2.1.2.2.2.2.2.2.2.2.2.2.1, ()), x.2.2.2.1, x.2.2.2.2.1, x.2.2.2.2.2.1, ())) (T.ret (Ex.normal, y.2.1, x.2.1, (List.take y.2.2.1.1.length y.2.2.1.1, List.take y.2.2.1.2.1.length y.2.2.1.2.1, List.take y.2.2.1.2.2.1.length y.2.2.1.2.2.1, y.2.2.1.2.2.2.1, List.take y.2.2.1.2.2.2.2.1.length y.2.2.1.2.2.2.2.1, (y_4, y_5, y_6, y_7, y_8, y_9), y.2.2.1.2.2.2.2.2.2.1, y.2.2.1.2.2.2.2.2.2.2.1, y.2.2.1.2.2.2.2.2.2.2.2.1, y.2.2.1.2.2.2.2.2.2.2.2.2.1, y.2.2.1.2.2.2.2.2.2.2.2.2.2.1, ()), x.2.2.2.1, x.2.2.2.2.1, W (x.2.2.2.2.2.1 + (1 : Int)), ()))) (T.ite false (T.ret (Ex.ret, ([], [], [], (0 : Int), [], (((0 : Int), (0 : Int), (0 : Int)), ((0 : Int), (0 : Int), (0 : Int)), ((0 : Int), (0 : Int), (0 : Int)), (0 : Int), (0 : Int), (0 : Int)), (0 : Int), (0 : Int)), ErrD.nil, (List.take y.2.2.1.1.length y.2.2.1.1, List.take y.2.2.1.2.1.length y.2.2.1.2.1, List.take y.2.2.1.2.2.1.length y.2.2.1.2.2.1, y.2.2.1.2.2.2.1, List.take y.2.2.1.2.2.2.2.1.length y.2.2.1.2.2.2.2.1, (y_4, y_5, y_6, y_7, y_8, y_9), y.2.2.1.2.2.2.2.2.2.1, y.2.2.1.2.2.2.2.2.2.2.1, mset y.2.2.1.2.2.2.2.2.2.2.2.1 (ByteArray.mk #[(99 : UInt8), (97 : UInt8), (109 : UInt8), (101 : UInt8), (114 : UInt8), (97 : UInt8)]) true, y.2.2.1.2.2.2.2.2.2.2.2.2.1, y.2.2.1.2.2.2.2.2.2.2.2.2.2.1, ()), x.2.2.2.1, x.2.2.2.2.1, x.2.2.2.2.2.1, ())) (T.ret (Ex.normal, y.2.1, x.2.1, (List.take y.2.2.1.1.length y.2.2.1.1, List.take y.2.2.1.2.1.length y.2.2.1.2.1, List.take y.2.2.1.2.2.1.length y.2.2.1.2.2.1, y.2.2.1.2.2.2.1, List.take y.2.2.1.2.2.2.2.1.length y.2.2.1.2.2.2.2.1, (y_4, y_5, y_6, y_7, y_8, y_9), y.2.2.1.2.2.2.2.2.2.1, y.2.2.1.2.2.2.2.2.2.2.1, mset y.2.2.1.2.2.2.2.2.2.2.2.1 (ByteArray.mk #[(99 : UInt8), (97 : UInt8), (109 : UInt8), (101 : UInt8), (114 : UInt8), (97 : UInt8)]) true, y.2.2.1.2.2.2.2.2.2.2.2.2.1, y.2.2.1.2.2.2.2.2.2.2.2.2.2.1, ()), x.2.2.2.1, x.2.2.2.2.1, W (x.2.2.2.2.2.1 + (1 : Int)), ())))) T.fail) T.fail) T.fail) T.fail) T.fail) T.fail) (T.opt (parse_point (List.take y.2.2.2.2.2.2.1.length y.2.2.2.2.2.2.1)) fun y_4 => T.ite (decide ((0 : Int) ≤ (3 : Int)) && decide ((3 : Int) ≤ (↑y.2.2.2.2.2.2.1.length : Int)) && decide ((↑y.2.2.2.2.2.2.1.length : Int) ≤ (↑y.2.2.2.2.2.2.1.length : Int))) (T.opt (parse_point (List.take ((↑y.2.2.2.2.2.2.1.length : Int).toNat - Int.toNat (3 : Int)) (List.drop ((0 : Nat) + Int.toNat (3 : Int)) y.2.2.2.2.2.2.1))) fun y_5 => T.ite (decide ((0 : Int) ≤ (6 : Int)) && decide ((6 : Int) ≤ (↑y.2.2.2.2.2.2.1.length : Int)) && decide ((↑y.2.2.2.2.2.2.1.length : Int) ≤ (↑y.2.2.2.2.2.2.1.length : Int))) (T.opt (parse_point (List.take ((↑y.2.2.2.2.2.2.1.length : Int).toNat - Int.toNat (6 : Int)) (List.drop ((0 : Nat) + Int.toNat (6 : Int)) y.2.2.2.2.2.2.1))) fun y_6 => T.ite (decide ((0 : Int) ≤ (9 : Int)) && decide ((9 : Int) < (↑y.2.2.2.2.2.2.1.length : Int))) (T.opt y.2.2.2.2.2.2.1[(0 : Nat) + Int.toNat (9 : Int)]? fun y_7 => T.ite (decide ((0 : Int) ≤ (10 : Int)) && decide ((10 : Int) < (↑y.2.2.2.2.2.2.1.length : Int))) (T.opt y.2.2.2.2.2.2.1[(0 : Nat) + Int.toNat (10 : Int)]? fun y_8 => T.ite (decide ((0 : Int) ≤ (11 : Int)) && decide ((11 : Int) < (↑y.2.2.2.2.2.2.1.length : Int))) (T.opt y.2.2.2.2.2.2.1[(0 : Nat) + Int.toNat (11 : Int)]? fun y_9 => T.ite ((mget y.2.2.1.2.2.2.2.2.2.2.2.1 (ByteArray.mk #[(99 : UInt8), (97 : UInt8), (109 : UInt8), (101 : UInt8), (114 : UInt8), (97 : UInt8)])).getD false) (T.opt (fault_New ((2 : Int), y.2.2.1.2.2.2.2.2.2.2.2.2.1)) fun y_10 => T.opt (fault_Wrap (y_10, (9 : Int), (0 : Int))) fun y_11 => T.ite (!y_11.isNil) (T.ret (Ex.ret, ([], [], [], (0 : Int), [], (((0 : Int), (0 : Int), (0 : Int)), ((0 : Int), (0 : Int), (0 : Int)), ((0 : Int), (0 : Int), (0 : Int)), (0 : Int), (0 : Int), (0 : Int)), (0 : Int), (0 : Int)), y_11, (List.take y.2.2.1.1.length y.2.2.1.1, List.take y.2.2.1.2.1.length y.2.2.1.2.1, List.take y.2.2.1.2.2.1.length y.2.2.1.2.2.1, y.2.2.1.2.2.2.1, List.take y.2.2.1.2.2.2.2.1.length y.2.2.1.2.2.2.2.1, (y_4, y_5, y_6, y_7, y_8, y_9), y.2.2.1.2.2.2.2.2.2.1, y.2.2.1.2.2.2.2.2.2.2.1, y.2.2.1.2.2.2.2.2.2.2.2.1, y.2.2.1.2.2.2.2.2.2.2.2.2.1, y.2.2.1.2.2.2.2.2.2.2.2.2.2.1, ()), x.2.2.2.1, x.2.2.2.2.1, x.2.2.2.2.2.1, ())) (T.ret (Ex.normal, y.2.1, x.2.1, (List.take y.2.2.1.1.length y.2.2.1.1, List.take y.2.2.1.2.1.length y.2.2.1.2.1, List.take y.2.2.1.2.2.1.length y.2.2.1.2.2.1, y.2.2.1.2.2.2.1, List.take y.2.2.1.2.2.2.2.1.length y.2.2.1.2.2.2.2.1, (y_4, y_5, y_6, y_7, y_8, y_9), y.2.2.1.2.2.2.2.2.2.1, y.2.2.1.2.2.2.2.2.2.2.1, y.2.2.1.2.2.2.2.2.2.2.2.1, y.2.2.1.2.2.2.2.2.2.2.2.2.1, y.2.2.1.2.2.2.2.2.2.2.2.2.2.1, ()), x.2.2.2.1, x.2.2.2.2.1, W (x.2.2.2.2.2.1 + (1 : Int)), ()))) (T.ite false (T.ret (Ex.ret, ([], [], [], (0 : Int), [], (((0 : Int), (0 : Int), (0 : Int)), ((0 : Int), (0 : Int), (0 : Int)), ((0 : Int), (0 : Int), (0 : Int)), (0 : Int), (0 : Int), (0 : Int)), (0 : Int), (0 : Int)), ErrD.nil, (List.take y.2.2.1.1.length y.2.2.1.1, List.take y.2.2.1.2.1.length y.2.2.1.2.1, List.take y.2.2.1.2.2.1.length y.2.2.1.2.2.1, y.2.2.1.2.2.2.1, List.take y.2.2.1.2.2.2.2.1.length y.2.2.1.2.2.2.2.1, (y_4, y_5, y_6, y_7, y_8, y_9), y.2.2.1.2.2.2.2.2.2.1, y.2.2.1.2.2.2.2.2.2.2.1, mset y.2.2.1.2.2.2.2.2.2.2.2.1 (ByteArray.mk #[(99 : UInt8), (97 : UInt8), (109 : UInt8), (101 : UInt8), (114 : UInt8), (97 : UInt8)]) true, y.2.2.1.2.2.2.2.2.2.2.2.2.1, y.2.2.1.2.2.2.2.2.2.2.2.2.2.1, ()), x.2.2.2.1, x.2.2.2.2.1, x.2.2.2.2.2.1, ())) (T.ret (Ex.normal, y.2.1, x.2.1, (List.take y.2.2.1.1.length y.2.2.1.1, List.take y.2.2.1.2.1.length y.2.2.1.2.1, List.take y.2.2.1.2.2.1.length y.2.2.1.2.2.1, y.2.2.1.2.2.2.1, List.take y.2.2.1.2.2.2.2.1.length y.2.2.1.2.2.2.2.1, (y_4, y_5, y_6, y_7, y_8, y_9), y.2.2.1.2.2.2.2.2.2.1, y.2.2.1.2.2.2.2.2.2.2.1, mset y.2.2.1.2.2.2.2.2.2.2.2.1 (ByteArray.mk #[(99 : UInt8), (97 : UInt8), (109 : UInt8), (101 : UInt8), (114 : UInt8), (97 : UInt8)]) true, y.2.2.1.2.2.2.2.2.2.2.2.2.1, y.2.2.1.2.2.2.2.2.2.2.2.2.2.1, ()), x.2.2.2.1, x.2.2.2.2.1, W (x.2.2.2.2.2.1 + (1 : Int)), ())))) T.fail) T.fail) T.fail) T.fail) T.fail)))))))))) (T.ite (exEq y.1 Ex.ret) (T.ite (!ErrD.isNil y.2.2.2.2.2.1) (T.ite (!ErrD.isNil y.2.2.2.2.2.1) (T.ret (Ex.ret, ([], [], [], (0 : Int), [], (((0 : Int), (0 : Int), (0 : Int)), ((0 : Int), (0 : Int), (0 : Int)), ((0 : Int), (0 : Int), (0 : Int)), (0 : Int), (0 : Int), (0 : Int)), (0 : Int), (0 : Int)), y.2.2.2.2.2.1, (List.take y.2.2.1.1.length y.2.2.1.1, List.take y.2.2.1.2.1.length y.2.2.1.2.1, List.take y.2.2.1.2.2.1.length y.2.2.1.2.2.1, y.2.2.1.2.2.2.1, List.take y.2.2.1.2.2.2.2.1.length y.2.2.1.2.2.2.2.1, y.2.2.1.2.2.2.2.2.1, y.2.2.1.2.2.2.2.2.2.1, y.2.2.1.2.2.2.2.2.2.2.1, y.2.2.1.2.2.2.2.2.2.2.2.1, y.2.2.1.2.2.2.2.2.2.2.2.2.1, y.2.2.1.2.2.2.2.2.2.2.2.2.2.1, ()), x.2.2.2.1, x.2.2.2.2.1, x.2.2.2.2.2.1, ())) (T.ret (Ex.normal, y.2.1, x.2.1, (List.take y.2.2.1.1.length y.2.2.1.1, List.take y.2.2.1.2.1.length y.2.2.1.2.1, List.take y.2.2.1.2.2.1.length y.2.2.1.2.2.1, y.2.2.1.2.2.2.1, List.take y.2.2.1.2.2.2.2.1.length y.2.2.1.2.2.2.2.1, y.2.2.1.2.2.2.2.2.1, y.2.2.1.2.2.2.2.2.2.1, y.2.2.1.2.2.2.2.2.2.2.1, y.2.2.1.2.2.2.2.2.2.2.2.1, y.2.2.1.2.2.2.2.2.2.2.2.2.1, y.2.2.1.2.2.2.2.2.2.2.2.2.2.1, ()), x.2.2.2.1, x.2.2.2.2.1, W (x.2.2.2.2.2.1 + (1 : Int)), ()))) (T.opt (lget y.2.2.1.2.2.2.2.2.2.2.2.2.2.1 (0 : Int)) fun y_3 => T.ite (ByteArray.toList y_3 == (ByteArray.mk #[(109 : UInt8), (97 : UInt8), (116 : UInt8), (116 : UInt8)]).toList) (T.ite (decide ((y.2.2.2.2.1.length + (List.take (4 : Nat) [(0 : Int), (0 : Int), (0 : Int), (1024 : Int)]).length) * nat_lit 8 ≤ most)) (T.opt (parse_point (List.take (y.2.2.2.2.1.length + (List.take (4 : Nat) [(0 : Int), (0 : Int), (0 : Int), (1024 : Int)]).length) (List.take y.2.2.2.2.1.length y.2.2.2.2.1 ++ List.take (4 : Nat) [(0 : Int), (0 : Int), (0 : Int), (1024 : Int)]))) fun y_4 => T.ite (decide ((0 : Int) ≤ (3 : Int)) && decide ((3 : Int) ≤ (↑(y.2.2.2.2.1.length + (List.take (4 : Nat) [(0 : Int), (0 : Int), (0 : Int), (1024 : Int)]).length) : Int)) && decide ((↑(y.2.2.2.2.1.length + (List.take (4 : Nat) [(0 : Int), (0 : Int), (0 : Int), (1024 : Int)]).length) : Int) ≤ (↑(y.2.2.2.2.1.length + (List.take (4 : Nat) [(0 : Int), (0 : Int), (0 : Int), (1024 : Int)]).length) : Int))) (T.opt (parse_point (List.take ((↑(y.2.2.2.2.1.length + (List.take (4 : Nat) [(0 : Int), (0 : Int), (0 : Int), (1024 : Int)]).length) : Int).toNat - Int.toNat (3 : Int)) (List.drop ((0 : Nat) + Int.toNat (3 : Int)) (List.take y.2.2.2.2.1.length y.2.2.2.2.1 ++ List.take (4 : Nat) [(0 : Int), (0 : Int), (0 : Int), (1024 : Int)])))) fun y_5 => T.ite (decide ((0 : Int) ≤ (6 : Int)) && decide ((6 : Int) < (↑(y.2.2.2.2.1.length + (List.take (4 : Nat) [(0 : Int), (0 : Int), (0 : Int), (1024 : Int)]).length) : Int))) (T.opt (List.take y.2.2.2.2.1.length y.2.2.2.2.1 ++ List.take (4 : Nat) [(0 : Int), (0 : Int), (0 : Int), (1024 : Int)])[(0 : Nat) + Int.toNat (6 : Int)]? fun y_6 => T.ite (decide ((y.2.2.1.1.length + (1 : Nat)) * nat_lit 56 ≤ most)) (T.ite false (T.ret (Ex.ret, ([], [], [], (0 : Int), [], (((0 : Int), (0 : Int), (0 : Int)), ((0 : Int), (0 : Int), (0 : Int)), ((0 : Int), (0 : Int), (0 : Int)), (0 : Int), (0 : Int), (0 : Int)), (0 : Int), (0 : Int)), ErrD.nil, (List.take (y.2.2.1.1.length + (1 : Nat)) (List.take y.2.2.1.1.length y.2.2.1.1 ++ [(y_4, y_5, y_6)]), List.take y.2.2.1.2.1.length y.2.2.1.2.1, List.take y.2.2.1.2.2.1.length y.2.2.1.2.2.1, y.2.2.1.2.2.2.1, List.take y.2.2.1.2.2.2.2.1.length y.2.2.1.2.2.2.2.1, y.2.2.1.2.2.2.2.2.1, y.2.2.1.2.2.2.2.2.2.1, y.2.2.1.2.2.2.2.2.2.2.1, y.2.2.1.2.2.2.2.2.2.2.2.1, y.2.2.1.2.2.2.2.2.2.2.2.2.1, y.2.2.1.2.2.2.2.2.2.2.2.2.2.1, ()), x.2.2.2.1, x.2.2.2.2.1, x.2.2.2.2.2.1, ())) (T.ret (Ex.normal, y.2.1, x.2.1, (List.take (y.2.2.1.1.length + (1 : Nat)) (List.take y.2.2.1.1.length y.2.2.1.1 ++ [(y_4, y_5, y_6)]), List.take y.2.2.1.2.1.length y.2.2.1.2.1, List.take y.2.2.1.2.2.1.length y.2.2.1.2.2.1, y.2.2.1.2.2.2.1, List.take y.2.2.1.2.2.2.2.1.length y.2.2.1.2.2.2.2.1, y.2.2.1.2.2.2.2.2.1, y.2.2.1.2.2.2.2.2.2.1, y.2.2.1.2.2.2.2.2.2.2.1, y.2.2.1.2.2.2.2.2.2.2.2.1, y.2.2.1.2.2.2.2.2.2.2.2.2.1, y.2.2.1.2.2.2.2.2.2.2.2.2.2.1, ()), x.2.2.2.1, x.2.2.2.2.1, W (x.2.2.2.2.2.1 + (1 : Int)), ()))) T.fail) T.fail) T.fail) T.fail) (T.ite (ByteArray.toList y_3 == (ByteArray.mk #[(109 : UInt8), (97 : UInt8), (116 : UInt8)]).toList) (T.opt (parse_point (List.take y.2.2.2.2.1.length y.2.2.2.2.1)) fun y_4 => T.ite (decide ((0 : Int) ≤ (3 : Int)) && decide ((3 : Int) ≤ (↑y.2.2.2.2.1.length : Int)) && decide ((↑y.2.2.2.2.1.length : Int) ≤ (↑y.2.2.2.2.1.length : Int))) (T.opt (parse_point (List.take ((↑y.2.2.2.2.1.length : Int).toNat - Int.toNat (3 : Int)) (List.drop ((0 : Nat) + Int.toNat (3 : Int)) y.2.2.2.2.1))) fun y_5 => T.ite (decide ((0 : Int) ≤ (6 : Int)) && decide ((6 : Int) < (↑y.2.2.2.2.1.length : Int))) (T.opt y.2.2.2.2.1[(0 : Nat) + Int.toNat (6 : Int)]? fun y_6 => T.ite (decide ((y.2.2.1.1.length + (1 : Nat)) * nat_lit 56 ≤ most)) (T.ite false (T.ret (Ex.ret, ([], [], [], (0 : Int), [], (((0 : Int), (0 : Int), (0 : Int)), ((0 : Int), (0 : Int), (0 : Int)), ((0 : Int), (0 : Int), (0 : Int)), (0 : Int), (0 : Int), (0 : Int)), (0 : Int), (0 : Int)), ErrD.nil, (List.take (y.2.2.1.1.length + (1 : Nat)) (List.take y.2.2.1.1.length y.2.2.1.1 ++ [(y_4, y_5, y_6)]), List.take y.2.2.1.2.1.length y.2.2.1.2.1, List.take y.2.2.1.2.2.1.length y.2.2.1.2.2.1, y.2.2.1.2.2.2.1, List.take y.2.2.1.2.2.2.2.1.length y.2.2.1.2.2.2.2.1, y.2.2.1.2.2.2.2.2.1, y.2.2.1.2.2.2.2.2.2.1, y.2.2.1.2.2.2.2.2.2.2.1, y.2.2.1.2.2.2.2.2.2.2.2.1, y.2.2.1.2.2.2.2.2.2.2.2.2.1, y.2.2.1.2.2.2.2.2.2.2.2.2.2.1, ()), x.2.2.2.1, x.2.2.2.2.1, x.2.2.2.2.2.1, ())) (T.ret (Ex.normal, y.2.1, x.2.1, (List.take (y.2.2.1.1.length + (1 : Nat)) (List.take y.2.2.1.1.length y.2.2.1.1 ++ [(y_4, y_5, y_6)]), List.take y.2.2.1.2.1.length y.2.2.1.2.1, List.take y.2.2.1.2.2.1.length y.2.2.1.2.2.1, y.2.2.1.2.2.2.1, List.take y.2.2.1.2.2.2.2.1.length y.2.2.1.2.2.2.2.1, y.2.2.1.2.2.2.2.2.1, y.2.2.1.2.2.2.2.2.2.1, y.2.2.1.2.2.2.2.2.2.2.1, y.2.2.1.2.2.2.2.2.2.2.2.1, y.2.2.1.2.2.2.2.2.2.2.2.2.1, y.2.2.1.2.2.2.2.2.2.2.2.2.2.1, ()), x.2.2.2.1, x.2.2.2.2.1, W (x.2.2.2.2.2.1 + (1 : Int)), ()))) T.fail) T.fail) T.fail) (T.ite (ByteArray.toList y_3 == (ByteArray.mk #[(116 : UInt8), (114 : UInt8), (105 : UInt8)]).toList) (T.ite (decide ((0 : Int) ≤ (1 : Int)) && decide ((1 : Int) ≤ (↑y.2.2.2.2.1.length : Int)) && decide ((↑y.2.2.2.2.1.length : Int) ≤ (↑y.2.2.2.2.1.length : Int))) (T.opt (parse_point (List.take ((↑y.2.2.2.2.1.length : Int).toNat - Int.toNat (1 : Int)) (List.drop ((0 : Nat) + Int.toNat (1 : Int)) y.2.2.2.2.1))) fun y_4 => T.ite (decide ((0 : Int) ≤ (4 : Int)) && decide ((4 : Int) ≤ (↑y.2.2.2.2.1.length : Int)) && decide ((↑y.2.2.2.2.1.length : Int) ≤ (↑y.2.2.2.2.1.length : Int))) (T.opt (parse_point (List.take ((↑y.2.2.2.2.1.length : Int).toNat - Int.toNat (4 : Int)) (List.drop ((0 : Nat) + Int.toNat (4 : Int)) y.2.2.2.2.1))) fun y_5 => T.ite (decide ((0 : Int) ≤ (7 : Int)) && decide ((7 : Int) ≤ (↑y.2.2.2.2.1.length : Int)) && decide ((↑y.2.2.2.2.1.length : Int) ≤ (↑y.2.2.2.2.1.length : Int))) (T.opt (parse_point (List.take ((↑y.2.2.2.2.1.length : Int).toNat - Int.toNat (7 : Int)) (List.drop ((0 : Nat) + Int.toNat (7 : Int)) y.2.2.2.2.1))) fun y_6 => T.ite (decide ((0 : Int) ≤ (0 : Int)) && decide ((0 : Int) < (↑y.2.2.2.2.1.length : Int))) (T.opt y.2.2.2.2.1[(0 : Nat) + Int.toNat (0 : Int)]? fun y_7 => T.ite (decide ((y.2.2.1.2.1.length + (1 : Nat)) * nat_lit 80 ≤ most)) (T.ite false (T.ret (Ex.ret, ([], [], [], (0 : Int), [], (((0 : Int), (0 : Int), (0 : Int)), ((0 : Int), (0 : Int), (0 : Int)), ((0 : Int), (0 : Int), (0 : Int)), (0 : Int), (0 : Int), (0 : Int)), (0 : Int), (0 : Int)), ErrD.nil, (List.take y.2.2.1.1.length y.2.2.1.1, List.take (y.2.2.1.2.1.length + (1 : Nat)) (List.take y.2.2.1.2.1.length y.2.2.1.2.1 ++ [(y_4, y_5, y_6, y_7)]), List.take y.2.2.1.2.2.1.length y.2.2.1.2.2.1, y.2.2.1.2.2.2.1, List.take y.2.2.1.2.2.2.2.1.length y.2.2.1.2.2.2.2.1, y.2.2.1.2.2.2.2.2.1, y.2.2.1.2.2.2.2.2.2.1, y.2.2.1.2.2.2.2.2.2.2.1, y.2.2.1.2.2.2.2.2.2.2.2.1, y.2.2.1.2.2.2.2.2.2.2.2.2.1, y.2.2.1.2.2.2.2.2.2.2.2.2.2.1, ()), x.2.2.2.1, x.2.2.2.2.1, x.2.2.2.2.2.1, ())) (T.ret (Ex.normal, y.2.1, x.2.1, (List.take y.2.2.1.1.length y.2.2.1.1, List.take (y.2.2.1.2.1.length + (1 : Nat)) (List.take y.2.2.1.2.1.length y.2.2.1.2.1 ++ [(y_4, y_5, y_6, y_7)]), List.take y.2.2.1.2.2.1.length y.2.2.1.2.2.1, y.2.2.1.2.2.2.1, List.take y.2.2.1.2.2.2.2.1.length y.2.2.1.2.2.2.2.1, y.2.2.1.2.2.2.2.2.1, y.2.2.1.2.2.2.2.2.2.1, y.2.2.1.2.2.2.2.2.2.2.1, y.2.2.1.2.2.2.2.2.2.2.2.1, y.2.2.1.2.2.2.2.2.2.2.2.2.1, y.2.2.1.2.2.2.2.2.2.2.2.2.2.1, ()), x.2.2.2.1, x.2.2.2.2.1, W (x.2.2.2.2.2.1 + (1 : Int)), ()))) T.fail) T.fail) T.fail) T.fail) T.fail) (T.ite (ByteArray.toList y_3 == (ByteArray.mk #[(108 : UInt8), (105 : UInt8), (103 : UInt8), (104 : UInt8), (116 : UInt8)]).toList) (T.ite (decide ((0 : Int) ≤ (0 : Int)) && decide ((0 : Int) < (↑y.2.2.2.2.1.length : Int))) (T.opt y.2.2.2.2.1[(0 : Nat) + Int.toNat (0 : Int)]? fun y_4 => T.ite (decide ((0 : Int) ≤ (1 : Int)) && decide ((1 : Int) ≤ (↑y.2.2.2.2.1.length : Int)) && decide ((↑y.2.2.2.2.1.length : Int) ≤ (↑y.2.2.2.2.1.length : Int))) (T.opt (parse_point (List.take ((↑y.2.2.2.2.1.length : Int).toNat - Int.toNat (1 : Int)) (List.drop ((0 : Nat) + Int.toNat (1 : Int)) y.2.2.2.2.1))) fun y_5 => T.ite (decide ((y.2.2.1.2.2.1.length + (1 : Nat)) * nat_lit 32 ≤ most)) (T.ite false (T.ret (Ex.ret, ([], [], [], (0 : Int), [], (((0 : Int), (0 : Int), (0 : Int)), ((0 : Int), (0 : Int), (0 : Int)), ((0 : Int), (0 : Int), (0 : Int)), (0 : Int), (0 : Int), (0 : Int)), (0 : Int), (0 : Int)), ErrD.nil, (List.take y.2.2.1.1.length y.2.2.1.1, List.take y.2.2.1.2.1.length y.2.2.1.2.1, List.take (y.2.2.1.2.2.1.length + (1 : Nat)) (List.take y.2.2.1.2.2.1.length y.2.2.1.2.2.1 ++ [(y_4, y_5)]), y.2.2.1.2.2.2.1, List.take y.2.2.1.2.2.2.2.1.length y.2.2.1.2.2.2.2.1, y.2.2.1.2.2.2.2.2.1, y.2.2.1.2.2.2.2.2.2.1, y.2.2.1.2.2.2.2.2.2.2.1, y.2.2.1.2.2.2.2.2.2.2.2.1, y.2.2.1.2.2.2.2.2.2.2.2.2.1, y.2.2.1.2.2.2.2.2.2.2.2.2.2.1, ()), x.2.2.2.1, x.2.2.2.2.1, x.2.2.2.2.2.1, ())) (T.ret (Ex.normal, y.2.1, x.2.1, (List.take y.2.2.1.1.length y.2.2.1.1, List.take y.2.2.1.2.1.length y.2.2.1.2.1, List.take (y.2.2.1.2.2.1.length + (1 : Nat)) (List.take y.2.2.1.2.2.1.length y.2.2.1.2.2.1 ++ [(y_4, y_5)]), y.2.2.1.2.2.2.1, List.take y.2.2.1.2.2.2.2.1.length y.2.2.1.2.2.2.2.1, y.2.2.1.2.2.2.2.2.1, y.2.2.1.2.2.2.2.2.2.1, y.2.2.1.2.2.2.2.2.2.2.1, y.2.2.1.2.2.2.2.2.2.2.2.1, y.2.2.1.2.2.2.2.2.2.2.2.2.1, y.2.2.1.2.2.2.2.2.2.2.2.2.2.1, ()), x.2.2.2.1, x.2.2.2.2.1, W (x.2.2.2.2.2.1 + (1 : Int)), ()))) T.fail) T.fail) T.fail) (T.ite (ByteArray.toList y_3 == (ByteArray.mk #[(99 : UInt8), (101 : UInt8), (108 : UInt8), (108 : UInt8)]).toList) (T.opt (parse_point (List.take y.2.2.2.2.1.length y.2.2.2.2.1)) fun y_4 => T.ite (decide ((y.2.2.1.2.2.2.2.1.length + (1 : Nat)) * nat_lit 24 ≤ most)) (T.ite false (T.ret (Ex.ret, ([], [], [], (0 : Int), [], (((0 : Int), (0 : Int), (0 : Int)), ((0 : Int), (0 : Int), (0 : Int)), ((0 : Int), (0 : Int), (0 : Int)), (0 : Int), (0 : Int), (0 : Int)), (0 : Int), (0 : Int)), ErrD.nil, (List.take y.2.2.1.1.length y.2.2.1.1, List.take y.2.2.1.2.1.length y.2.2.1.2.1, List.take y.2.2.1.2.2.1.length y.2.2.1.2.2.1, y.2.2.1.2.2.2.1, List.take (y.2.2.1.2.2.2.2.1.length + (1 : Nat)) (List.take y.2.2.1.2.2.2.2.1.length y.2.2.1.2.2.2.2.1 ++ [y_4]), y.2.2.1.2.2.2.2.2.1, y.2.2.1.2.2.2.2.2.2.1, y.2.2.1.2.2.2.2.2.2.2.1, y.2.2.1.2.2.2.2.2.2.2.2.1, y.2.2.1.2.2.2.2.2.2.2.2.2.1, y.2.2.1.2.2.2.2.2.2.2.2.2.2.1, ()), x.2.2.2.1, x.2.2.2.2.1, x.2.2.2.2.2.1, ())) (T.ret (Ex.normal, y.2.1, x.2.1, (List.take y.2.2.1.1.length y.2.2.1.1, List.take y.2.2.1.2.1.length y.2.2.1.2.1, List.take y.2.2.1.2.2.1.length y.2.2.1.2.2.1, y.2.2.1.2.2.2.1, List.take (y.2.2.1.2.2.2.2.1.length + (1 : Nat)) (List.take y.2.2.1.2.2.2.2.1.length y.2.2.1.2.2.2.2.1 ++ [y_4]), y.2.2.1.2.2.2.2.2.1, y.2.2.1.2.2.2.2.2.2.1, y.2.2.1.2.2.2.2.2.2.2.1, y.2.2.1.2.2.2.2.2.2.2.2.1, y.2.2.1.2.2.2.2.2.2.2.2.2.1, y.2.2.1.2.2.2.2.2.2.2.2.2.2.1, ()), x.2.2.2.1, x.2.2.2.2.1, W (x.2.2.2.2.2.1 + (1 : Int)), ()))) T.fail) (T.ite (ByteArray.toList y_3 == (ByteArray.mk #[(115 : UInt8), (107 : UInt8), (121 : UInt8)]).toList) (T.ite (decide ((0 : Int) ≤ (0 : Int)) && decide ((0 : Int) < (↑y.2.2.2.2.1.length : Int))) (T.opt y.2.2.2.2.1[(0 : Nat) + Int.toNat (0 : Int)]? fun y_4 => T.ite ((mget y.2.2.1.2.2.2.2.2.2.2.2.1 (ByteArray.mk #[(115 : UInt8), (107 : UInt8), (121 : UInt8)])).getD false) (T.opt (fault_New ((2 : Int), y.2.2.1.2.2.2.2.2.2.2.2.2.1)) fun y_5 => T.opt (fault_Wrap (y_5, (9 : Int), (0 : Int))) fun y_6 => T.ite (!y_6.isNil) (T.ret (Ex.ret, ([], [], [], (0 : Int), [], (((0 : Int), (0 : Int), (0 : Int)), ((0 : Int), (0 : Int), (0 : Int)), ((0 : Int), (0 : Int), (0 : Int)), (0 : Int), (0 : Int), (0 : Int)), (0 : Int), (0 : Int)), y_6, (List.take y.2.2.1.1.length y.2.2.1.1, List.take y.2.2.1.2.1.length y.2.2.1.2.1, List.take y.2.2.1.2.2.1.length y.2.2.1.2.2.1, y_4, List.take y.2.2.1.2.2.2.2.1.length y.2.2.1.2.2.2.2.1, y.2.2.1.2.2.2.2.2.1, y.2.2.1.2.2.2.2.2.2.1, y.2.2.1.2.2.2.2.2.2.2.1, y.2.2.1.2.2.2.2.2.2.2.2.1, y.2.2.1.2.2.2.2.2.2.2.2.2.1, y.2.2.1.2.2.2.2.2.2.2.2.2.2.1, ()), x.2.2.2.1, x.2.2.2.2.1, x.2.2.2.2.2.1, ())) (T.ret (Ex.normal, y.2.1, x.2.1, (List.take y.2.2.1.1.length y.2.2.1.1, List.take y.2.2.1.2.1.length y.2.2.1.2.1, List.take y.2.2.1.2.2.1.length y.2.2.1.2.2.1, y_4, List.take y.2.2.1.2.2.2.2.1.length y.2.2.1.2.2.2.2.1, y.2.2.1.2.2.2.2.2.1, y.2.2.1.2.2.2.2.2.2.1, y.2.2.1.2.2.2.2.2.2.2.1, y.2.2.1.2.2.2.2.2.2.2.2.1, y.2.2.1.2.2.2.2.2.2.2.2.2.1, y.2.2.1.2.2.2.2.2.2.2.2.2.2.1, ()), x.2.2.2.1, x.2.2.2.2.1, W (x.2.2.2.2.2.1 + (1 : Int)), ()))) (T.ite false (T.ret (Ex.ret, ([], [], [], (0 : Int), [], (((0 : Int), (0 : Int), (0 : Int)), ((0 : Int), (0 : Int), (0 : Int)), ((0 : Int), (0 : Int), (0 : Int)), (0 : Int), (0 : Int), (0 : Int)), (0 : Int), (0 : Int)), ErrD.nil, (List.take y.2.2.1.1.length y.2.2.1.1, List.take y.2.2.1.2.1.length y.2.2.1.2.1, List.take y.2.2.1.2.2.1.length y.2.2.1.2.2.1, y_4, List.take y.2.2.1.2.2.2.2.1.length y.2.2.1.2.2.2.2.1, y.2.2.1.2.2.2.2.2.1, y.2.2.1.2.2.2.2.2.2.1, y.2.2.1.2.2.2.2.2.2.2.1, mset y.2.2.1.2.2.2.2.2.2.2.2.1 (ByteArray.mk #[(115 : UInt8), (107 : UInt8), (121 : UInt8)]) true, y.2.2.1.2.2.2.2.2.2.2.2.2.1, y.2.2.1.2.2.2.2.2.2.2.2.2.2.1, ()), x.2.2.2.1, x.2.2.2.2.1, x.2.2.2.2.2.1, ())) (T.ret (Ex.normal, y.2.1, x.2.1, (List.take y.2.2.1.1.length y.2.2.1.1, List.take y.2.2.1.2.1.length y.2.2.1.2.1, List.take y.2.2.1.2.2.1.length y.2.2.1.2.2.1, y_4, List.take y.2.2.1.2.2.2.2.1.length y.2.2.1.2.2.2.2.1, y.2.2.1.2.2.2.2.2.1, y.2.2.1.2.2.2.2.2.2.1, y.2.2.1.2.2.2.2.2.2.2.1, mset y.2.2.1.2.2.2.2.2.2.2.2.1 (ByteArray.mk #[(115 : UInt8), (107 : UInt8), (121 : UInt8)]) true, y.2.2.1.2.2.2.2.2.2.2.2.2.1, y.2.2.1.2.2.2.2.2.2.2.2.2.2.1, ()), x.2.2.2.1, x.2.2.2.2.1, W (x.2.2.2.2.2.1 + (1 : Int)), ())))) T.fail) (T.ite (ByteArray.toList y_3 == (ByteArray.mk #[(102 : UInt8), (105 : UInt8), (108 : UInt8), (116 : UInt8), (101 : UInt8), (114 : UInt8)]).toList) (T.ite (decide ((0 : Int) ≤ (0 : Int)) && decide ((0 : Int) < (↑y.2.2.2.2.1.length : Int))) (T.opt y.2.2.2.2.1[(0 : Nat) + Int.toNat (0 : Int)]? fun y_4 => T.ite (decide ((0 : Int) ≤ (1 : Int)) && decide ((1 : Int) < (↑y.2.2.2.2.1.length : Int))) (T.opt y.2.2.2.2.1[(0 : Nat) + Int.toNat (1 : Int)]? fun y_5 => T.ite ((mget y.2.2.1.2.2.2.2.2.2.2.2.1 (ByteArray.mk #[(102 : UInt8), (105 : UInt8), (108 : UInt8), (116 : UInt8), (101 : UInt8), (114 : UInt8)])).getD false) (T.opt (fault_New ((2 : Int), y.2.2.1.2.2.2.2.2.2.2.2.2.1)) fun y_6 => T.opt (fault_Wrap (y_6, (9 : Int), (0 : Int))) fun y_7 => T.ite (!y_7.isNil) (T.ret (Ex.ret, ([], [], [], (0 : Int), [], (((0 : Int), (0 : Int), (0 : Int)), ((0 : Int), (0 : Int), (0 : Int)), ((0 : Int), (0 : Int), (0 : Int)), (0 : Int), (0 : Int), (0 : Int)), (0 : Int), (0 : Int)), y_7, (List.take y.2.2.1.1.length y.2.2.1.1, List.take y.2.2.1.2.1.length y.2.2.1.2.1, List.take y.2.2.1.2.2.1.length y.2.2.1.2.2.1, y.2.2.1.2.2.2.1, List.take y.2.2.1.2.2.2.2.1.length y.2.2.1.2.2.2.2.1, y.2.2.1.2.2.2.2.2.1, y_4, y_5, y.2.2.1.2.2.2.2.2.2.2.2.1, y.2.2.1.2.2.2.2.2.2.2.2.2.1, y.2.2.1.2.2.2.2.2.2.2.2.2.2.1, ()), x.2.2.2.1, x.2.2.2.2.1, x.2.2.2.2.2.1, ())) (T.ret (Ex.normal, y.2.1, x.2.1, (List.take y.2.2.1.1.length y.2.2.1.1, List.take y.2.2.1.2.1.length y.2.2.1.2.1, List.take y.2.2.1.2.2.1.length y.2.2.1.2.2.1, y.2.2.1.2.2.2.1, List.take y.2.2.1.2.2.2.2.1.length y.2.2.1.2.2.2.2.1, y.2.2.1.2.2.2.2.2.1, y_4, y_5, y.2.2.1.2.2.2.2.2.2.2.2.1, y.2.2.1.2.2.2.2.2.2.2.2.2.1, y.2.2.1.2.2.2.2.2.2.2.2.2.2.1, ()), x.2.2.2.1, x.2.2.2.2.1, W (x.2.2.2.2.2.1 + (1 : Int)), ()))) (T.ite false (T.ret (Ex.ret, ([], [], [], (0 : Int), [], (((0 : Int), (0 : Int), (0 : Int)), ((0 : Int), (0 : Int), (0 : Int)), ((0 : Int), (0 : Int), (0 : Int)), (0 : Int), (0 : Int), (0 : Int)), (0 : Int), (0 : Int)), ErrD.nil, (List.take y.2.2.1.1.length y.2.2.1.1, List.take y.2.2.1.2.1.length y.2.2.1.2.1, List.take y.2.2.1.2.2.1.length y.2.2.1.2.2.1, y.2.2.1.2.2.2.1, List.take y.2.2.1.2.2.2.2.1.length y.2.2.1.2.2.2.2.1, y.2.2.1.2.2.2.2.2.1, y_4, y_5, mset y.2.2.1.2.2.2.2.2.2.2.2.1 (ByteArray.mk #[(102 : UInt8), (105 : UInt8), (108 : UInt8), (116 : UInt8), (101 : UInt8), (114 : UInt8)]) true, y.2.2.1.2.2.2.2.2.2.2.2.2.1, y.2.2.1.2.2.2.2.2.2.2.2.2.2.1, ()), x.2.2.2.1, x.2.2.2.2.1, x.2.2.2.2.2.1, ())) (T.ret (Ex.normal, y.2.1, x.2.1, (List.take y.2.2.1.1.length y.2.2.1.1, List.take y.2.2.1.2.1.length y.2.2.1.2.1, List.take y.2.2.1.2.2.1.length y.2.2.1.2.2.1, y.2.2.1.2.2.2.1, List.take y.2.2.1.2.2.2.2.1.length y.2.2.1.2.2.2.2.1, y.2.2.1.2.2.2.2.2.1, y_4, y_5, mset y.2.2.1.2.2.2.2.2.2.2.2.1 (ByteArray.mk #[(102 : UInt8), (105 : UInt8), (108 : UInt8), (116 : UInt8), (101 : UInt8), (114 : UInt8)]) true, y.2.2.1.2.2.2.2.2.2.2.2.2.1, y.2.2.1.2.2.2.2.2.2.2.2.2.2.1, ()), x.2.2.2.1, x.2.2.2.2.1, W (x.2.2.2.2.2.1 + (1 : Int)), ())))) T.fail) T.fail) (T.ite (ByteArray.toList y_3 == (ByteArray.mk #[(112 : UInt8), (105 : UInt8), (110 : UInt8), (104 : UInt8), (111 : UInt8), (108 : UInt8), (101 : UInt8)]).toList) (T.ite (decide ((y.2.2.2.2.1.length + (List.take (2 : Nat) [(0 : Int), (1024 : Int)]).length) * nat_lit 8 ≤ most)) (T.opt (parse_point (List.take (y.2.2.2.2.1.length + (List.take (2 : Nat) [(0 : Int), (1024 : Int)]).length) (List.take y.2.2.2.2.1.length y.2.2.2.2.1 ++ List.take (2 : Nat) [(0 : Int), (1024 : Int)]))) fun y_4 => T.ite (decide ((0 : Int) ≤ (3 : Int)) && decide ((3 : Int) ≤ (↑(y.2.2.2.2.1.length + (List.take (2 : Nat) [(0 : Int), (1024 : Int)]).length) : Int)) && decide ((↑(y.2.2.2.2.1.length + (List.take (2 : Nat) [(0 : Int), (1024 : Int)]).length) : Int) ≤ (↑(y.2.2.2.2.1.length + (List.take (2 : Nat) [(0 : Int), (1024 : Int)]).length) : Int))) (T.opt (parse_point (List.take ((↑(y.2.2.2.2.1.length + (List.take (2 : Nat) [(0 : Int), (1024 : Int)]).length) : Int).toNat - Int.toNat (3 : Int)) (List.drop ((0 : Nat) + Int.toNat (3 : Int)) (List.take y.2.2.2.2.1.length y.2.2.2.2.1 ++ List.take (2 : Nat) [(0 : Int), (1024 : Int)])))) fun y_5 => T.ite (decide ((0 : Int) ≤ (6 : Int)) && decide ((6 : Int) ≤ (↑(y.2.2.2.2.1.length + (List.take (2 : Nat) [(0 : Int), (1024 : Int)]).length) : Int)) && decide ((↑(y.2.2.2.2.1.length + (List.take (2 : Nat) [(0 : Int), (1024 : Int)]).length) : Int) ≤ (↑(y.2.2.2.2.1.length + (List.take (2 : Nat) [(0 : Int), (1024 : Int)]).length) : Int))) (T.opt (parse_point (List.take ((↑(y.2.2.2.2.1.length + (List.take (2 : Nat) [(0 : Int), (1024 : Int)]).length) : Int).toNat - Int.toNat (6 : Int)) (List.drop ((0 : Nat) + Int.toNat (6 : Int)) (List.take y.2.2.2.2.1.length y.2.2.2.2.1 ++ List.take (2 : Nat) [(0 : Int), (1024 : Int)])))) fun y_6 => T.ite (decide ((0 : Int) ≤ (9 : Int)) && decide ((9 : Int) < (↑(y.2.2.2.2.1.length + (List.take (2 : Nat) [(0 : Int), (1024 : Int)]).length) : Int))) (T.opt (List.take y.2.2.2.2.1.length y.2.2.2.2.1 ++ List.take (2 : Nat) [(0 : Int), (1024 : Int)])[(0 : Nat) + Int.toNat (9 : Int)]? fun y_7 => T.ite (decide ((0 : Int) ≤ (10 : Int)) && decide ((10 : Int) < (↑(y.2.2.2.2.1.length + (List.take (2 : Nat) [(0 : Int), (1024 : Int)]).length) : Int))) (T.opt (List.take y.2.2.2.2.1.length y.2.2.2.2.1 ++ List.take (2 : Nat) [(0 : Int), (1024 : Int)])[(0 : Nat) + Int.toNat (10 : Int)]? fun y_8 => T.ite (decide ((0 : Int) ≤ (11 : Int)) && decide ((11 : Int) < (↑(y.2.2.2.2.1.length + (List.take (2 : Nat) [(0 : Int), (1024 : Int)]).length) : Int))) (T.opt (List.take y.2.2.2.2.1.length y.2.2.2.2.1 ++ List.take (2 : Nat) [(0 : Int), (1024 : Int)])[(0 : Nat) + Int.toNat (11 : Int)]? fun y_9 => T.ite ((mget y.2.2.1.2.2.2.2.2.2.2.2.1 (ByteArray.mk #[(99 : UInt8), (97 : UInt8), (109 : UInt8), (101 : UInt8), (114 : UInt8), (97 : UInt8)])).getD false) (T.opt (fault_New ((2 : Int), y.2.2.1.2.2.2.2.2.2.2.2.2.1)) fun y_10 => T.opt (fault_Wrap (y_10, (9 : Int), (0 : Int))) fun y_11 => T.ite (!y_11.isNil) (T.ret (Ex.ret, ([], [], [], (0 : Int), [], (((0 : Int), (0 : Int), (0 : Int)), ((0 : Int), (0 : Int), (0 : Int)), ((0 : Int), (0 : Int), (0 : Int)), (0 : Int), (0 : Int), (0 : Int)), (0 : Int), (0 : Int)), y_11, (List.take y.2.2.1.1.length y.2.2.1.1, List.take y.2.2.1.2.1.length y.2.2.1.2.1, List.take y.2.2.1.2.2.1.length y.2.2.1.2.2.1, y.2.2.1.2.2.2.1, List.take y.2.2.1.2.2.2.2.1.length y.2.2.1.2.2.2.2.1, (y_4, y_5, y_6, y_7, y_8, y_9), y.2.2.1.2.2.2.2.2.2.1, y.2.2.1.2.2.2.2.2.2.2.1, y.2.2.1.2.2.2.2.2.2.2.2.1, y.2.2.1.2.2.2.2.2.2.2.2.2.1, y.2.2.1.2.2.2.2.2.2.2.2.2.2.1, ()), x.2.2.2.1, x.2.2.2.2.1, x.2.2.2.2.2.1, ())) (T.ret (Ex.normal, y.2.1, x.2.1, (List.take y.2.2.1.1.length y.2.2.1.1, List.take y.2.2.1.2.1.length y.2.2.1.2.1, List.take y.2.2.1.2.2.1.length y.2.2.1.2.2.1, y.2.2.1.2.2.2.1, List.take y.2.2.1.2.2.2.2.1.length y.2.2.1.2.2.2.2.1, (y_4, y_5, y_6, y_7, y_8, y_9), y.2.2.1.2.2.2.2.2.2.1, y.2.2.1.2.2.2.2.2.2.2.1, y.2.2.1.2.2.2.2.2.2.2.2.1, y.2.2.1.2.2.2.2.2.2.2.2.2.1, y.2.2.1.2.2.2.2.2.2.2.2.2.2.1, ()), x.2.2.2.1, x.2.2.2.2.1, W (x.2.2.2.2.2.1 + (1 : Int)), ()))) (T.ite false (T.ret (Ex.ret, ([], [], [], (0 : Int), [], (((0 : Int), (0 : Int), (0 : Int)), ((0 : Int), (0 : Int), (0 : Int)), ((0 : Int), (0 : Int), (0 : Int)), (0 : Int), (0 : Int), (0 : Int)), (0 : Int), (0 : Int)), ErrD.nil, (List.take y.2.2.1.1.length y.2.2.1.1, List.take y.2.2.1.2.1.length y.2.2.1.2.1, List.take y.2.2.1.2.2.1.length y.2.2.1.2.2.1, y.2.2.1.2.2.2.1, List.take y.2.2.1.2.2.2.2.1.length y.2.2.1.2.2.2.2.1, (y_4, y_5, y_6, y_7, y_8, y_9), y.2.2.1.2.2.2.2.2.2.1, y.2.2.1.2.2.2.2.2.2.2.1, mset y.2.2.1.2.2.2.2.2.2.2.2.1 (ByteArray.mk #[(99 : UInt8), (97 : UInt8), (109 : UInt8), (101 : UInt8), (114 : UInt8), (97 : UInt8)]) true, y.2.2.1.2.2.2.2.2.2.2.2.2.1, y.2.2.1.2.2.2.2.2.2.2.2.2.2.1, ()), x.2.2.2.1, x.2.2.2.2.1, x.2.2.2.2.2.1, ())) (T.ret (Ex.normal, y.2.1, x.2.1, (List.take y.2.2.1.1.length y.2.2.1.1, List.take y.2.2.1.2.1.length y.2.2.1.2.1, List.take y.2.2.1.2.2.1.length y.2.2.1.2.2.1, y.2.2.1.2.2.2.1, List.take y.2.2.1.2.2.2.2.1.length y.2.2.1.2.2.2.2.1, (y_4, y_5, y_6, y_7, y_8, y_9), y.2.2.1.2.2.2.2.2.2.1, y.2.2.1.2.2.2.2.2.2.2.1, mset y.2.2.1.2.2.2.2.2.2.2.2.1 (ByteArray.mk #[(99 : UInt8), (97 : UInt8), (109 : UInt8), (101 : UInt8), (114 : UInt8), (97 : UInt8)]) true, y.2.2.1.2.2.2.2.2.2.2.2.2.1, y.2.2.1.2.2.2.2.2.2.2.2.2.2.1, ()), x.2.2.2.1, x.2.2.2.2.1, W (x.2.2.2.2.2.1 + (1 : Int)), ())))) T.fail) T.fail) T.fail) T.fail) T.fail) T.fail) (T.opt (parse_point (List.take y.2.2.2.2.1.length y.2.2.2.2.1)) fun y_4 => T.ite (decide ((0 : Int) ≤ (3 : Int)) && decide ((3 : Int) ≤ (↑y.2.2.2.2.1.length : Int)) && decide ((↑y.2.2.2.2.1.length : Int) ≤ (↑y.2.2.2.2.1.length : Int))) (T.opt (parse_point (List.take ((↑y.2.2.2.2.1.length : Int).toNat - Int.toNat (3 : Int)) (List.drop ((0 : Nat) + Int.toNat (3 : Int)) y.2.2.2.2.1))) fun y_5 => T.ite (decide ((0 : Int) ≤ (6 : Int)) && decide ((6 : Int) ≤ (↑y.2.2.2.2.1.length : Int)) && decide ((↑y.2.2.2.2.1.length : Int) ≤ (↑y.2.2.2.2.1.length : Int))) (T.opt (parse_point (List.take ((↑y.2.2.2.2.1.length : Int).toNat - Int.toNat (6 : Int)) (List.drop ((0 : Nat) + Int.toNat (6 : Int)) y.2.2.2.2.1))) fun y_6 => T.ite (decide ((0 : Int) ≤ (9 : Int)) && decide ((9 : Int) < (↑y.2.2.2.2.1.length : Int))) (T.opt y.2.2.2.2.1[(0 : Nat) + Int.toNat (9 : Int)]? fun y_7 => T.ite (decide ((0 : Int) ≤ (10 : Int)) && decide ((10 : Int) < (↑y.2.2.2.2.1.length : Int))) (T.opt y.2.2.2.2.1[(0 : Nat) + Int.toNat (10 : Int)]? fun y_8 => T.ite (decide ((0 : Int) ≤ (11 : Int)) && decide ((11 : Int) < (↑y.2.2.2.2.1.length : Int))) (T.opt y.2.2.2.2.1[(0 : Nat) + Int.toNat (11 : Int)]? fun y_9 => T.ite ((mget y.2.2.1.2.2.2.2.2.2.2.2.1 (ByteArray.mk #[(99 : UInt8), (97 : UInt8), (109 : UInt8), (101 : UInt8), (114 : UInt8), (97 : UInt8)])).getD false) (T.opt (fault_New ((2 : Int), y.2.2.1.2.2.2.2.2.2.2.2.2.1)) fun y_10 => T.opt (fault_Wrap (y_10, (9 : Int), (0 : Int))) fun y_11 => T.ite (!y_11.isNil) (T.ret (Ex.ret, ([], [], [], (0 : Int), [], (((0 : Int), (0 : Int), (0 : Int)), ((0 : Int), (0 : Int), (0 : Int)), ((0 : Int), (0 : Int), (0 : Int)), (0 : Int), (0 : Int), (0 : Int)), (0 : Int), (0 : Int)), y_11, (List.take y.2.2.1.1.length y.2.2.1.1, List.take y.2.2.1.2.1.length y.2.2.1.2.1, List.take y.2.2.1.2.2.1.length y.2.2.1.2.2.1, y.2.2.1.2.2.2.1, List.take y.2.2.1.2.2.2.2.1.length y.2.2.1.2.2.2.2.1, (y_4, y_5, y_6, y_7, y_8, y_9), y.2.2.1.2.2.2.2.2.2.1, y.2.2.1.2.2.2.2.2.2.2.1, y.2.2.1.2.2.2.2.2.2.2.2.1, y.2.2.1.2.2.2.2.2.2.2.2.2.1, y.2.2.1.2.2.2.2.2.2.2.2.2.2.1, ()), x.2.2.2.1, x.2.2.2.2.1, x.2.2.2.2.2.1, ())) (T.ret (Ex.normal, y.2.1, x.2.1, (List.take y.2.2.1.1.length y.2.2.1.1, List.take y.2.2.1.2.1.length y.2.2.1.2.1, List.take y.2.2.1.2.2.1.length y.2.2.1.2.2.1, y.2.2.1.2.2.2.1, List.take y.2.2.1.2.2.2.2.1.length y.2.2.1.2.2.2.2.1, (y_4, y_5, y_6, y_7, y_8, y_9), y.2.2.1.2.2.2.2.2.2.1, y.2.2.1.2.2.2.2.2.2.2.1, y.2.2.1.2.2.2.2.2.2.2.2.1, y.2.2.1.2.2.2.2.2.2.2.2.2.1, y.2.2.1.2.2.2.2.2.2.2.2.2.2.1, ()), x.2.2.2.1, x.2.2.2.2.1, W (x.2.2.2.2.2.1 + (1 : Int)), ()))) (T.ite false (T.ret (Ex.ret, ([], [], [], (0 : Int), [], (((0 : Int), (0 : Int), (0 : Int)), ((0 : Int), (0 : Int), (0 : Int)), ((0 : Int), (0 : Int), (0 : Int)), (0 : Int), (0 : Int), (0 : Int)), (0 : Int), (0 : Int)), ErrD.nil, (List.take y.2.2.1.1.length y.2.2.1.1, List.take y.2.2.1.2.1.length y.2.2.1.2.1, List.take y.2.2.1.2.2.1.length y.2.2.1.2.2.1, y.2.2.1.2.2.2.1, List.take y.2.2.1.2.2.2.2.1.length y.2.2.1.2.2.2.2.1, (y_4, y_5, y_6, y_7, y_8, y_9), y.2.2.1.2.2.2.2.2.2.1, y.2.2.1.2.2.2.2.2.2.2.1, mset y.2.2.1.2.2.2.2.2.2.2.2.1 (ByteArray.mk #[(99 : UInt8), (97 : UInt8), (109 : UInt8), (101 : UInt8), (114 : UInt8), (97 : UInt8)]) true, y.2.2.1.2.2.2.2.2.2.2.2.2.1, y.2.2.1.2.2.2.2.2.2.2.2.2.2.1, ()), x.2.2.2.1, x.2.2.2.2.1, x.2.2.2.2.2.1, ())) (T.ret (Ex.normal, y.2.1, x.2.1, (List.take y.2.2.1.1.length y.2.2.1.1, List.take y.2.2.1.2.1.length y.2.2.1.2.1, List.take y.2.2.1.2.2.1.length y.2.2.1.2.2.1, y.2.2.1.2.2.2.1, List.take y.2.2.1.2.2.2.2.1.length y.2.2.1.2.2.2.2.1, (y_4, y_5, y_6, y_7, y_8, y_9), y.2.2.1.2.2.2.2.2.2.1, y.2.2.1.2.2.2.2.2.2.2.1, mset y.2.2.1.2.2.2.2.2.2.2.2.1 (ByteArray.mk #[(99 : UInt8), (97 : UInt8), (109 : UInt8), (101 : UInt8), (114 : UInt8), (97 : UInt8)]) true, y.2.2.1.2.2.2.2.2.2.2.2.2.1, y.2.2.1.2.2.2.2.2.2.2.2.2.2.1, ()), x.2.2.2.1, x.2.2.2.2.1, W (x.2.2.2.2.2.1 + (1 : Int)), ())))) T.fail) T.fail) T.fail) T.fail) T.fail)))))))))) T.fail))) T.fail)) (T.ret (Ex.exit (0 : Nat), x.1, x.2.1, (List.take x.2.2.1.1.length x.2.2.1.1, List.take x.2.2.1.2.1.length x.2.2.1.2.1, List.take x.2.2.1.2.2.1.length x.2.2.1.2.2.1, x.2.2.1.2.2.2.1, List.take x.2.2.1.2.2.2.2.1.length x.2.2.1.2.2.2.2.1, x.2.2.1.2.2.2.2.2.1, x.2.2.1.2.2.2.2.2.2.1, x.2.2.1.2.2.2.2.2.2.2.1, x.2.2.1.2.2.2.2.2.2.2.2.1, x.2.2.1.2.2.2.2.2.2.2.2.2.1, x.2.2.1.2.2.2.2.2.2.2.2.2.2.1, ()), x.2.2.2.1, x.2.2.2.2.1, x.2.2.2.2.2.1, ()))
noncomputable def parse_Parse.l0 (x : ((List ((Int × Int × Int) × (Int × Int × Int) × Int)) × (List ((Int × Int × Int) × (Int × Int × Int) × (Int × Int × Int) × Int)) × (List (Int × Int × Int × Int)) × Int × (List (Int × Int × Int)) × ((Int × Int × Int) × (Int × Int × Int) × (Int × Int × Int) × Int × Int × Int) × Int × Int) × ErrD × (List ((Int × Int × Int) × (Int × Int × Int) × Int) × List ((Int × Int × Int) × (Int × Int × Int) × (Int × Int × Int) × Int) × List (Int × Int × Int × Int) × Int × List (Int × Int × Int) × ((Int × Int × Int) × (Int × Int × Int) × (Int × Int × Int) × Int × Int × Int) × Int × Int × List (ByteArray × Bool) × Int × (List (ByteArray)) × Unit) × (List (Int × List (ByteArray))) × Int × Int × Unit) : Option (Ex × ((List ((Int × Int × Int) × (Int × Int × Int) × Int)) × (List ((Int × Int × Int) × (Int × Int × Int) × (Int × Int × Int) × Int)) × (List (Int × Int × Int × Int)) × Int × (List (Int × Int × Int)) × ((Int × Int × Int) × (Int × Int × Int) × (Int × Int × Int) × Int × Int × Int) × Int × Int) × ErrD × (List ((Int × Int × Int) × (Int × Int × Int) × Int) × List ((Int × Int × Int) × (Int × Int × Int) × (Int × Int × Int) × Int) × List (Int × Int × Int × Int) × Int × List (Int × Int × Int) × ((Int × Int × Int) × (Int × Int × Int) × (Int × Int × Int) × Int × Int × Int) × Int × Int × List (ByteArray × Bool) × Int × (List (ByteArray)) × Unit) × (List (Int × List (ByteArray))) × Int × Int × Unit) := (iterT parse_Parse.t0 rounds x).run
theorem parse_Parse.k0 : bodies 0 (lp Tryz.f12 []) = [.loop (loopIn 0 (lp Tryz.f12 []))] ∧ WP Tryz.prog 0 (.block 0 (.loop (loopIn 0 (lp Tryz.f12 [])))) (loopS parse_Parse.L0 57 0 [.exit 0, .ret] parse_Parse.l0) :=
  loop_tree (L := parse_Parse.L0) (F := (dpT Tryz.prog (ext (ext (ext (ext (ext (ext (ext (ext (ext (ext Xs 30 parse_bad.q) 31 lex_Lines.q) 51 parse_takes.q) 77 parse_point.q) 47 fault_Wrap.q) 48 fault_New.q) 75 lex_Number.q) 76 lex_Whole.q) 86 scene_lights_1.q) 100 scene_within_1.q) parse_Parse.deeps parse_Parse.tabl 100 8)) (D := (inL parse_Parse.deeps.D)) (tab := []) (t := parse_Parse.t0) mixed (dpT_ok mixed (quiet_ext (quiet_ext (quiet_ext (quiet_ext (quiet_ext (quiet_ext (quiet_ext (quiet_ext (quiet_ext (quiet_ext Xok parse_bad.ok) lex_Lines.ok) parse_takes.ok) parse_point.ok) fault_Wrap.ok) fault_New.ok) lex_Number.ok) lex_Whole.ok) scene_lights_1.ok) scene_within_1.ok) parse_Parse.deepsOk parse_Parse.tablOk 100 8).1 (dpT_ok mixed (quiet_ext (quiet_ext (quiet_ext (quiet_ext (quiet_ext (quiet_ext (quiet_ext (quiet_ext (quiet_ext (quiet_ext Xok parse_bad.ok) lex_Lines.ok) parse_takes.ok) parse_point.ok) fault_Wrap.ok) fault_New.ok) lex_Number.ok) lex_Whole.ok) scene_lights_1.ok) scene_within_1.ok) parse_Parse.deepsOk parse_Parse.tablOk 100 8).2 (fun _ => rfl) (by kernel_rfl) (by kernel_rfl) trivial (fun x => by kernel_rfl)
noncomputable def parse_Parse.t (x : ByteArray) : T (((List ((Int × Int × Int) × (Int × Int × Int) × Int)) × (List ((Int × Int × Int) × (Int × Int × Int) × (Int × Int × Int) × Int)) × (List (Int × Int × Int × Int)) × Int × (List (Int × Int × Int)) × ((Int × Int × Int) × (Int × Int × Int) × (Int × Int × Int) × Int × Int × Int) × Int × Int) × ErrD) := T.ite (decide ((↑(ByteArray.size x) : Int) > (262144 : Int))) (T.opt (parse_bad (4 : Int)) fun y => T.ret (([], [], [], (0 : Int), [], (((0 : Int), (0 : Int), (0 : Int)), ((0 : Int), (0 : Int), (0 : Int)), ((0 : Int), (0 : Int), (0 : Int)), (0 : Int), (0 : Int), (0 : Int)), (0 : Int), (0 : Int)), y)) (T.opt (lex_Lines x) fun y => T.opt (parse_Parse.l0 (([], [], [], (0 : Int), [], (((0 : Int), (0 : Int), (0 : Int)), ((0 : Int), (0 : Int), (0 : Int)), ((0 : Int), (0 : Int), (0 : Int)), (0 : Int), (0 : Int), (0 : Int)), (0 : Int), (0 : Int)), ErrD.nil, ([], [], [], (0 : Int), [], (((0 : Int), (0 : Int), (0 : Int)), ((0 : Int), (0 : Int), (0 : Int)), ((0 : Int), (0 : Int), (0 : Int)), (0 : Int), (0 : Int), (0 : Int)), (1 : Int), (512 : Int), [], (0 : Int), [], ()), y, (↑y.length : Int), (0 : Int), ())) fun y => T.ite (exEq y.1 (Ex.exit (0 : Nat))) (T.ite (!(mget y.2.2.2.1.2.2.2.2.2.2.2.2.1 (ByteArray.mk #[(99 : UInt8), (97 : UInt8), (109 : UInt8), (101 : UInt8), (114 : UInt8), (97 : UInt8)])).getD false) (T.opt (parse_bad (8 : Int)) fun y => T.ret (([], [], [], (0 : Int), [], (((0 : Int), (0 : Int), (0 : Int)), ((0 : Int), (0 : Int), (0 : Int)), ((0 : Int), (0 : Int), (0 : Int)), (0 : Int), (0 : Int), (0 : Int)), (0 : Int), (0 : Int)), y)) (T.opt (scene_Check (List.take y.2.2.2.1.1.length y.2.2.2.1.1, List.take y.2.2.2.1.2.1.length y.2.2.2.1.2.1, List.take y.2.2.2.1.2.2.1.length y.2.2.2.1.2.2.1, y.2.2.2.1.2.2.2.1, List.take y.2.2.2.1.2.2.2.2.1.length y.2.2.2.1.2.2.2.2.1, y.2.2.2.1.2.2.2.2.2.1, y.2.2.2.1.2.2.2.2.2.2.1, y.2.2.2.1.2.2.2.2.2.2.2.1)) fun y_1 => T.ite y_1.isFault (T.ret (([], [], [], (0 : Int), [], (((0 : Int), (0 : Int), (0 : Int)), ((0 : Int), (0 : Int), (0 : Int)), ((0 : Int), (0 : Int), (0 : Int)), (0 : Int), (0 : Int), (0 : Int)), (0 : Int), (0 : Int)), ErrD.fault y_1.faultC y_1.faultL y_1.faultE)) (T.ret ((List.take y.2.2.2.1.1.length y.2.2.2.1.1, List.take y.2.2.2.1.2.1.length y.2.2.2.1.2.1, List.take y.2.2.2.1.2.2.1.length y.2.2.2.1.2.2.1, y.2.2.2.1.2.2.2.1, List.take y.2.2.2.1.2.2.2.2.1.length y.2.2.2.1.2.2.2.2.1, y.2.2.2.1.2.2.2.2.2.1, y.2.2.2.1.2.2.2.2.2.2.1, y.2.2.2.1.2.2.2.2.2.2.2.1), ErrD.nil)))) (T.ite (exEq y.1 Ex.ret) (T.ret (y.2.1, y.2.2.1)) T.fail))
noncomputable def parse_Parse (x : ByteArray) : Option (((List ((Int × Int × Int) × (Int × Int × Int) × Int)) × (List ((Int × Int × Int) × (Int × Int × Int) × (Int × Int × Int) × Int)) × (List (Int × Int × Int × Int)) × Int × (List (Int × Int × Int)) × ((Int × Int × Int) × (Int × Int × Int) × (Int × Int × Int) × Int × Int × Int) × Int × Int) × ErrD) := (parse_Parse.t x).run
noncomputable def parse_Parse.q : List AV → T AV := entry [.str] (outR [TScn, TE]) fun x => .opt (parse_Parse x) .ret
theorem parse_Parse.ok : FnOK Tryz.prog 12 parse_Parse.q :=
  entry_call (ps := [.str]) (rs := [TScn, TE]) (F := (dpT Tryz.prog (ext (ext (ext (ext (ext (ext (ext (ext (ext (ext Xs 30 parse_bad.q) 31 lex_Lines.q) 51 parse_takes.q) 77 parse_point.q) 47 fault_Wrap.q) 48 fault_New.q) 75 lex_Number.q) 76 lex_Whole.q) 86 scene_lights_1.q) 100 scene_within_1.q) parse_Parse.deeps parse_Parse.tabl 100 8)) (D := (inL parse_Parse.deeps.D)) (S := tabS [(0, loopS parse_Parse.L0 57 0 [.exit 0, .ret] parse_Parse.l0)]) (t := parse_Parse.t) mixed (dpT_ok mixed (quiet_ext (quiet_ext (quiet_ext (quiet_ext (quiet_ext (quiet_ext (quiet_ext (quiet_ext (quiet_ext (quiet_ext Xok parse_bad.ok) lex_Lines.ok) parse_takes.ok) parse_point.ok) fault_Wrap.ok) fault_New.ok) lex_Number.ok) lex_Whole.ok) scene_lights_1.ok) scene_within_1.ok) parse_Parse.deepsOk parse_Parse.tablOk 100 8).1 (dpT_ok mixed (quiet_ext (quiet_ext (quiet_ext (quiet_ext (quiet_ext (quiet_ext (quiet_ext (quiet_ext (quiet_ext (quiet_ext Xok parse_bad.ok) lex_Lines.ok) parse_takes.ok) parse_point.ok) fault_Wrap.ok) fault_New.ok) lex_Number.ok) lex_Whole.ok) scene_lights_1.ok) scene_within_1.ok) parse_Parse.deepsOk parse_Parse.tablOk 100 8).2 Tryz.func12 (by kernel_rfl) (sok_fn ⟨parse_Parse.k0, trivial⟩) (by kernel_rfl) (fun x => by kernel_rfl)
end Go.Proofs.Pen

namespace Go.Proofs.Pen
open Go Go.Proofs
def parse_Line.L0 : List (Nat × Lay) := [(2, .val .str), (3, .val TI), (7, .val (.sl (.st (.pair TI (.sl .str))))), (8, .val TI), (9, .val TI)]
noncomputable def parse_Line.t0 (x : ByteArray × Int × (List (Int × List (ByteArray))) × Int × Int × Unit) : T (Ex × ByteArray × Int × (List (Int × List (ByteArray))) × Int × Int × Unit) := T.ite (decide (x.2.2.2.2.1 < x.2.2.2.1)) (T.opt (lget x.2.2.1 x.2.2.2.2.1) fun y => T.opt (lget y.2 (0 : Int)) fun y_1 => T.ret (Ex.ret, y_1, y.1, x.2.2.1, x.2.2.2.1, x.2.2.2.2.1, ())) (T.ret (Ex.exit (0 : Nat), x.1, x.2.1, x.2.2.1, x.2.2.2.1, x.2.2.2.2.1, ()))
noncomputable def parse_Line.l0 (x : ByteArray × Int × (List (Int × List (ByteArray))) × Int × Int × Unit) : Option (Ex × ByteArray × Int × (List (Int × List (ByteArray))) × Int × Int × Unit) := (iterT parse_Line.t0 rounds x).run
theorem parse_Line.k0 : bodies 0 (lp Tryz.f17 []) = [.loop (loopIn 0 (lp Tryz.f17 []))] ∧ WP Tryz.prog 0 (.block 0 (.loop (loopIn 0 (lp Tryz.f17 [])))) (loopS parse_Line.L0 20 0 [.exit 0, .ret] parse_Line.l0) :=
  loop_tree (L := parse_Line.L0) (F := ({ quiet := (ext Xs 31 lex_Lines.q), deep := noDeep } : Fns)) (D := D0) (tab := []) (t := parse_Line.t0) mixed (quiet_ext Xok lex_Lines.ok) (deep_none _) (fun _ => rfl) (by kernel_rfl) (by kernel_rfl) trivial (fun x => by kernel_rfl)
noncomputable def parse_Line.t (x : ByteArray) : T (ByteArray × Int) := T.opt (lex_Lines x) fun y => T.opt (parse_Line.l0 ((ByteArray.mk #[]), (0 : Int), y, (↑y.length : Int), (0 : Int), ())) fun y => T.ite (exEq y.1 (Ex.exit (0 : Nat))) (T.ret ((ByteArray.mk #[]), (0 : Int))) (T.ite (exEq y.1 Ex.ret) (T.ret (y.2.1, y.2.2.1)) T.fail)
noncomputable def parse_Line (x : ByteArray) : Option (ByteArray × Int) := (parse_Line.t x).run
noncomputable def parse_Line.q : List AV → T AV := entry [.str] (outR [.str, TI]) fun x => .opt (parse_Line x) .ret
theorem parse_Line.ok : FnOK Tryz.prog 17 parse_Line.q :=
  entry_call (ps := [.str]) (rs := [.str, TI]) (F := ({ quiet := (ext Xs 31 lex_Lines.q), deep := noDeep } : Fns)) (D := D0) (S := tabS [(0, loopS parse_Line.L0 20 0 [.exit 0, .ret] parse_Line.l0)]) (t := parse_Line.t) mixed (quiet_ext Xok lex_Lines.ok) (deep_none _) Tryz.func17 (by kernel_rfl) (sok_fn ⟨parse_Line.k0, trivial⟩) (by kernel_rfl) (fun x => by kernel_rfl)
end Go.Proofs.Pen

namespace Go.Proofs.Pen
open Go Go.Proofs
set_option maxRecDepth 100000
noncomputable def law24_awake.t (_ : Unit) : T (Bool) := T.ret true
noncomputable def law24_awake.q : List AV → T AV := entry [] (outR [.bool]) fun _ => .ret (true : dens [.bool])
theorem law24_awake.ok : FnOK Tryz.prog 9 law24_awake.q := peT_entry mixed (quiet_ext (quiet_ext Xok parse_Parse.ok) parse_Line.ok) [19, 12, 17] tbOk 1000 20 Tryz.func9 (by kernel_rfl) (by kernel_rfl)
end Go.Proofs.Pen

namespace Go.Proofs.Pen
open Go Go.Proofs
noncomputable def errors_Unwrap.t (x : ErrD) : T (ErrD) := T.ite (!ErrD.isFault x) (T.ret ErrD.nil) (T.ite (ErrD.onlyF x).isFault (T.ret (ErrD.onlyF x).faultE) (T.ite (ErrD.onlyF x).isCode T.fail T.fail))
noncomputable def errors_Unwrap (x : ErrD) : Option (ErrD) := (errors_Unwrap.t x).run
noncomputable def errors_Unwrap.q : List AV → T AV := entry [TE] (outR [TE]) fun x => .opt (errors_Unwrap x) .ret
theorem errors_Unwrap.ok : FnOK Tryz.prog 70 errors_Unwrap.q :=
  entry_call (ps := [TE]) (rs := [TE]) (F := ({ quiet := (ext Xs 156 fault_Fault_Unwrap.q), deep := noDeep } : Fns)) (D := D0) (S := tabS []) (t := errors_Unwrap.t) mixed (quiet_ext Xok fault_Fault_Unwrap.ok) (deep_none _) Tryz.func70 (by kernel_rfl) (sok_fn trivial) (by kernel_rfl) (fun x => by kernel_rfl)
end Go.Proofs.Pen

namespace Go.Proofs.Pen
open Go Go.Proofs
noncomputable def eachLine.deeps : Deeps := { D := [43], C := [], frz := false, S := fun _ _ => noS }
theorem eachLine.deepsOk : LoopsOK Tryz.prog eachLine.deeps.S := (loops_none _)
def eachLine.L0 : List (Nat × Lay) := [(9000, .blk 0 TI), (0, .val TE), (1, .clo 43 [0]), (4, .val TI)]
noncomputable def eachLine.t0 (x : Int × ErrD × Int × Unit) : T (Ex × Int × ErrD × Int × Unit) := T.ite (!ErrD.isNil x.2.1 && decide (x.2.2.1 < (64 : Int))) (T.ite (ErrD.isFault x.2.1 && x.1 == (0 : Int)) (T.opt (errors_Unwrap x.2.1) fun y => T.ret (Ex.normal, ErrD.faultL x.2.1, y, W (x.2.2.1 + (1 : Int)), ())) (T.opt (errors_Unwrap x.2.1) fun y => T.ret (Ex.normal, x.1, y, W (x.2.2.1 + (1 : Int)), ()))) (T.ret (Ex.exit (0 : Nat), x.1, x.2.1, x.2.2.1, ()))
noncomputable def eachLine.l0 (x : Int × ErrD × Int × Unit) : Option (Ex × Int × ErrD × Int × Unit) := (iterT eachLine.t0 rounds x).run
theorem eachLine.k0 : bodies 0 (lp Tryz.f42 []) = [.loop (loopIn 0 (lp Tryz.f42 []))] ∧ WP Tryz.prog 1 (.block 0 (.loop (loopIn 0 (lp Tryz.f42 [])))) (loopS eachLine.L0 18 0 [.exit 0] eachLine.l0) :=
  loop_treeN 1 (L := eachLine.L0) (F := (dp Tryz.prog (ext Xs 70 errors_Unwrap.q) eachLine.deeps 100 8)) (D := (inL eachLine.deeps.D)) (tab := []) (t := eachLine.t0) mixed (dp_ok mixed (quiet_ext Xok errors_Unwrap.ok) eachLine.deepsOk 100 8).1 (dp_ok mixed (quiet_ext Xok errors_Unwrap.ok) eachLine.deepsOk 100 8).2 (fun _ => rfl) (by kernel_rfl) (by kernel_rfl) trivial (fun x => by kernel_rfl)
noncomputable def eachLine.S : List (Nat × (St → T (Ex × St))) := [(0, loopS eachLine.L0 18 0 [.exit 0] eachLine.l0)]
theorem eachLine.tab : TabOK Tryz.prog 1 (codeOf Tryz.f42) eachLine.S := ⟨eachLine.k0, trivial⟩
end Go.Proofs.Pen

namespace Go.Proofs.Pen
open Go Go.Proofs
noncomputable def fault_Line.deeps : Deeps := { D := [42, 43], C := [], frz := false, S := extSn (fun _ _ => noS) 42 1 (tabS eachLine.S) }
theorem fault_Line.deepsOk : LoopsOK Tryz.prog fault_Line.deeps.S := (loops_extn (loops_none _) Tryz.func42 eachLine.tab)
noncomputable def fault_Line.t (x : ErrD) : T (Int) := T.opt (eachLine.l0 ((0 : Int), x, (0 : Int), ())) fun y => T.ite (exEq y.1 (Ex.exit (0 : Nat))) (T.ret y.2.1) T.fail
noncomputable def fault_Line (x : ErrD) : Option (Int) := (fault_Line.t x).run
noncomputable def fault_Line.q : List AV → T AV := entry [TE] (outR [TI]) fun x => .opt (fault_Line x) .ret
theorem fault_Line.ok : FnOK Tryz.prog 21 fault_Line.q :=
  entry_call (ps := [TE]) (rs := [TI]) (F := (dp Tryz.prog Xs fault_Line.deeps 100 8)) (D := (inL fault_Line.deeps.D)) (S := tabS []) (t := fault_Line.t) mixed (dp_ok mixed Xok fault_Line.deepsOk 100 8).1 (dp_ok mixed Xok fault_Line.deepsOk 100 8).2 Tryz.func21 (by kernel_rfl) (sok_fn trivial) (by kernel_rfl) (fun x => by kernel_rfl)
end Go.Proofs.Pen

namespace Go.Proofs.Pen
open Go Go.Proofs
noncomputable def law24_same.t (x : ErrD × (Int × Int × Int)) : T (Bool) := T.ite (x.2.1 == (0 : Int) && (x.2.2.1 == (0 : Int) && x.2.2.2 == (0 : Int))) (T.ret (ErrD.isNil x.1)) (T.ite (!ErrD.isNil x.1) (T.ite (ErrD.top x.1 == x.2.1) (T.opt (fault_Is (x.1, x.2.2.1)) fun y => T.ite y (T.opt (fault_Line x.1) fun y => T.ret (y == x.2.2.2)) (T.ret false)) (T.ret false)) (T.ret false))
noncomputable def law24_same (x : ErrD × (Int × Int × Int)) : Option (Bool) := (law24_same.t x).run
noncomputable def law24_same.q : List AV → T AV := entry [TE, TP] (outR [.bool]) fun x => .opt (law24_same x) .ret
theorem law24_same.ok : FnOK Tryz.prog 15 law24_same.q :=
  entry_call (ps := [TE, TP]) (rs := [.bool]) (F := ({ quiet := (ext (ext Xs 20 fault_Is.q) 21 fault_Line.q), deep := noDeep } : Fns)) (D := D0) (S := tabS []) (t := law24_same.t) mixed (quiet_ext (quiet_ext Xok fault_Is.ok) fault_Line.ok) (deep_none _) Tryz.func15 (by kernel_rfl) (sok_fn trivial) (by kernel_rfl) (fun x => by kernel_rfl)
end Go.Proofs.Pen

namespace Go.Proofs.Pen
open Go Go.Proofs
def law24_ParseBig.L0 : List (Nat × Lay) := [(0, .val .str), (5, .row (.int .u8)), (6, .val TI)]
noncomputable def law24_ParseBig.t0 (x : ByteArray × List Int × Int × Unit) : T (Ex × ByteArray × List Int × Int × Unit) := T.ite (decide (x.2.2.1 < (↑x.2.1.length : Int))) (T.ite (decide ((0 : Int) ≤ x.2.2.1) && decide (x.2.2.1 < (↑x.2.1.length : Int))) (T.opt x.2.1[(0 : Nat) + Int.toNat x.2.2.1]? fun y => T.ret (Ex.normal, x.1, List.take x.2.1.length (x.2.1.set ((0 : Nat) + Int.toNat x.2.2.1) (32 : Int)), W (x.2.2.1 + (1 : Int)), ())) T.fail) (T.ret (Ex.exit (0 : Nat), x.1, List.take x.2.1.length x.2.1, x.2.2.1, ()))
noncomputable def law24_ParseBig.l0 (x : ByteArray × List Int × Int × Unit) : Option (Ex × ByteArray × List Int × Int × Unit) := (iterT law24_ParseBig.t0 rounds x).run
theorem law24_ParseBig.k0 : bodies 0 (lp Tryz.f5 []) = [.loop (loopIn 0 (lp Tryz.f5 []))] ∧ WP Tryz.prog 0 (.block 0 (.loop (loopIn 0 (lp Tryz.f5 [])))) (loopS law24_ParseBig.L0 87 0 [.exit 0] law24_ParseBig.l0) :=
  loop_tree (L := law24_ParseBig.L0) (F := ({ quiet := (ext (ext (ext (ext (ext (ext (ext (ext (ext Xs 9 law24_awake.q) 12 parse_Parse.q) 10 ref23_Split.q) 16 ref23_Words.q) 17 parse_Line.q) 15 law24_same.q) 13 ref22_Same.q) 86 scene_lights_1.q) 100 scene_within_1.q), deep := noDeep } : Fns)) (D := D0) (tab := []) (t := law24_ParseBig.t0) mixed (quiet_ext (quiet_ext (quiet_ext (quiet_ext (quiet_ext (quiet_ext (quiet_ext (quiet_ext (quiet_ext Xok law24_awake.ok) parse_Parse.ok) ref23_Split.ok) ref23_Words.ok) parse_Line.ok) law24_same.ok) ref22_Same.ok) scene_lights_1.ok) scene_within_1.ok) (deep_none _) (fun _ => rfl) (by kernel_rfl) (by kernel_rfl) trivial (fun x => by kernel_rfl)
def law24_ParseBig.L2 : List (Nat × Lay) := [(0, .val .str), (7, .box TScn), (8, .val TE), (9, .val .str), (10, .val TI), (11, .val (.sl .str)), (12, .val TI)]
noncomputable def law24_ParseBig.t2 (x : ByteArray × ((List ((Int × Int × Int) × (Int × Int × Int) × Int)) × (List ((Int × Int × Int) × (Int × Int × Int) × (Int × Int × Int) × Int)) × (List (Int × Int × Int × Int)) × Int × (List (Int × Int × Int)) × ((Int × Int × Int) × (Int × Int × Int) × (Int × Int × Int) × Int × Int × Int) × Int × Int) × ErrD × ByteArray × Int × (List (ByteArray)) × Int × Unit) : T (Ex × ByteArray × ((List ((Int × Int × Int) × (Int × Int × Int) × Int)) × (List ((Int × Int × Int) × (Int × Int × Int) × (Int × Int × Int) × Int)) × (List (Int × Int × Int × Int)) × Int × (List (Int × Int × Int)) × ((Int × Int × Int) × (Int × Int × Int) × (Int × Int × Int) × Int × Int × Int) × Int × Int) × ErrD × ByteArray × Int × (List (ByteArray)) × Int × Unit) := T.ite (decide (x.2.2.2.2.2.2.1 ≥ (0 : Int))) (T.opt (lget x.2.2.2.2.2.1 x.2.2.2.2.2.2.1) fun y => T.opt (ref23_Words y) fun y => T.ite (decide ((↑y.length : Int) > (0 : Int))) (T.opt (lget y (0 : Int)) fun y => T.ret (Ex.normal, x.1, x.2.1, x.2.2.1, y, W (x.2.2.2.2.2.2.1 + (1 : Int)), x.2.2.2.2.2.1, W (x.2.2.2.2.2.2.1 - (1 : Int)), ())) (T.ret (Ex.normal, x.1, x.2.1, x.2.2.1, x.2.2.2.1, x.2.2.2.2.1, x.2.2.2.2.2.1, W (x.2.2.2.2.2.2.1 - (1 : Int)), ()))) (T.ret (Ex.exit (2 : Nat), x.1, x.2.1, x.2.2.1, x.2.2.2.1, x.2.2.2.2.1, x.2.2.2.2.2.1, x.2.2.2.2.2.2.1, ()))
noncomputable def law24_ParseBig.l2 (x : ByteArray × ((List ((Int × Int × Int) × (Int × Int × Int) × Int)) × (List ((Int × Int × Int) × (Int × Int × Int) × (Int × Int × Int) × Int)) × (List (Int × Int × Int × Int)) × Int × (List (Int × Int × Int)) × ((Int × Int × Int) × (Int × Int × Int) × (Int × Int × Int) × Int × Int × Int) × Int × Int) × ErrD × ByteArray × Int × (List (ByteArray)) × Int × Unit) : Option (Ex × ByteArray × ((List ((Int × Int × Int) × (Int × Int × Int) × Int)) × (List ((Int × Int × Int) × (Int × Int × Int) × (Int × Int × Int) × Int)) × (List (Int × Int × Int × Int)) × Int × (List (Int × Int × Int)) × ((Int × Int × Int) × (Int × Int × Int) × (Int × Int × Int) × Int × Int × Int) × Int × Int) × ErrD × ByteArray × Int × (List (ByteArray)) × Int × Unit) := (iterT law24_ParseBig.t2 rounds x).run
theorem law24_ParseBig.k2 : bodies 2 (lp Tryz.f5 []) = [.loop (loopIn 2 (lp Tryz.f5 []))] ∧ WP Tryz.prog 0 (.block 2 (.loop (loopIn 2 (lp Tryz.f5 [])))) (loopS law24_ParseBig.L2 87 2 [.exit 2] law24_ParseBig.l2) :=
  loop_tree (L := law24_ParseBig.L2) (F := ({ quiet := (ext (ext (ext (ext (ext (ext (ext (ext (ext Xs 9 law24_awake.q) 12 parse_Parse.q) 10 ref23_Split.q) 16 ref23_Words.q) 17 parse_Line.q) 15 law24_same.q) 13 ref22_Same.q) 86 scene_lights_1.q) 100 scene_within_1.q), deep := noDeep } : Fns)) (D := D0) (tab := []) (t := law24_ParseBig.t2) mixed (quiet_ext (quiet_ext (quiet_ext (quiet_ext (quiet_ext (quiet_ext (quiet_ext (quiet_ext (quiet_ext Xok law24_awake.ok) parse_Parse.ok) ref23_Split.ok) ref23_Words.ok) parse_Line.ok) law24_same.ok) ref22_Same.ok) scene_lights_1.ok) scene_within_1.ok) (deep_none _) (fun _ => rfl) (by kernel_rfl) (by kernel_rfl) trivial (fun x => by kernel_rfl)
noncomputable def law24_ParseBig.t (x : ByteArray × Int) : T (Bool) := T.ite (decide ((↑(ByteArray.size x.1) : Int) > (3000 : Int))) (T.ret true) (T.ite (decide ((0 : Int) ≤ W ((262145 : Int) + W x.2)) && decide (W ((262145 : Int) + W x.2) ≤ W ((262145 : Int) + W x.2)) && decide (W ((262145 : Int) + W x.2) * (↑(nat_lit 1) : Int) ≤ (↑most : Int)) && decide (W ((262145 : Int) + W x.2) ≤ (↑most : Int))) (T.opt (law24_ParseBig.l0 (x.1, List.take (W ((262145 : Int) + W x.2)).toNat (List.replicate (W ((262145 : Int) + W x.2)).toNat (0 : Int)), (0 : Int), ())) fun y => T.ite (exEq y.1 (Ex.exit (0 : Nat))) (T.opt (parse_Parse (ofBytes (List.take y.2.2.1.length y.2.2.1))) fun y_1 => T.opt (ref23_Split y.2.1) fun y_2 => T.opt (law24_ParseBig.l2 (y.2.1, y_1.fst, y_1.snd, (ByteArray.mk #[]), (0 : Int), y_2, W ((↑y_2.length : Int) - (1 : Int)), ())) fun y => T.ite (exEq y.1 (Ex.exit (2 : Nat))) (T.opt (parse_Line y.2.1) fun y_3 => T.ite true (T.opt (law24_same (y.2.2.2.1, (9 : Int), (4 : Int), (0 : Int))) fun y_4 => T.ite y_4 (T.opt (ref22_Same (y.2.2.1, [], [], [], (0 : Int), [], (((0 : Int), (0 : Int), (0 : Int)), ((0 : Int), (0 : Int), (0 : Int)), ((0 : Int), (0 : Int), (0 : Int)), (0 : Int), (0 : Int), (0 : Int)), (0 : Int), (0 : Int))) fun y_5 => T.ret (y_5 && ByteArray.toList y_3.fst == ByteArray.toList y.2.2.2.2.1 && y_3.snd == y.2.2.2.2.2.1)) (T.ret false)) (T.ret false)) T.fail) T.fail) T.fail)
noncomputable def law24_ParseBig (x : ByteArray × Int) : Option (Bool) := (law24_ParseBig.t x).run
noncomputable def law24_ParseBig.q : List AV → T AV := entry [.str, (.int .u8)] (outR [.bool]) fun x => .opt (law24_ParseBig x) .ret
theorem law24_ParseBig.ok : FnOK Tryz.prog 5 law24_ParseBig.q :=
  entry_call (ps := [.str, (.int .u8)]) (rs := [.bool]) (F := ({ quiet := (ext (ext (ext (ext (ext (ext (ext (ext (ext Xs 9 law24_awake.q) 12 parse_Parse.q) 10 ref23_Split.q) 16 ref23_Words.q) 17 parse_Line.q) 15 law24_same.q) 13 ref22_Same.q) 86 scene_lights_1.q) 100 scene_within_1.q), deep := noDeep } : Fns)) (D := D0) (S := tabS [(0, loopS law24_ParseBig.L0 87 0 [.exit 0] law24_ParseBig.l0), (2, loopS law24_ParseBig.L2 87 2 [.exit 2] law24_ParseBig.l2)]) (t := law24_ParseBig.t) mixed (quiet_ext (quiet_ext (quiet_ext (quiet_ext (quiet_ext (quiet_ext (quiet_ext (quiet_ext (quiet_ext Xok law24_awake.ok) parse_Parse.ok) ref23_Split.ok) ref23_Words.ok) parse_Line.ok) law24_same.ok) ref22_Same.ok) scene_lights_1.ok) scene_within_1.ok) (deep_none _) Tryz.func5 (by kernel_rfl) (sok_fn ⟨law24_ParseBig.k0, law24_ParseBig.k2, trivial⟩) (by kernel_rfl) (fun x => by kernel_rfl)
end Go.Proofs.Pen

namespace Go.Proofs.Pen
open Go Go.Proofs

theorem Line_two (a b l : Int) : fault_Line (.fault a 0 (.fault b l .nil)) = some l := by
  unfold fault_Line fault_Line.t eachLine.l0
  obtain ⟨k, hk⟩ : ∃ k, rounds = k + 4 := ⟨rounds - 4, by unfold rounds; omega⟩
  rw [hk]
  have s0 : (eachLine.t0 (0, .fault a 0 (.fault b l .nil), 0, ())).run = some (.normal, 0, .fault b l .nil, 1, ()) := rfl
  have s1 : (eachLine.t0 (0, .fault b l .nil, 1, ())).run = some (.normal, l, .nil, 2, ()) := rfl
  have s2 : (eachLine.t0 (l, .nil, 2, ())).run = some (.exit 0, l, .nil, 2, ()) := rfl
  rw [tr_opt, iter_go s0, iter_go s1, iter_stop (by simp) s2]
  rfl

theorem same_eq (o : Option W3) (h : ∀ w, o = some w → w.1 ≠ 0 ∧ w.2.1 ≠ 0) : law24_same (mkErr o, mkW o) = some true := by
  unfold law24_same law24_same.t
  cases o with
  | none => rfl
  | some w =>
    obtain ⟨h1, h2⟩ := h w rfl
    obtain ⟨c, i, p⟩ := w
    have h1 : c ≠ 0 := h1
    have e : mkErr (some (c, i, p)) = .fault c 0 (.fault i p .nil) := rfl
    have e2 : mkW (some (c, i, p)) = (c, i, p) := rfl
    rw [e, e2]
    dsimp only
    have hz : (c == 0 && (i == 0 && p == 0)) = false := by simp [h1]
    rw [tr_no hz, tr_yes (b := !(ErrD.fault c 0 (.fault i p .nil)).isNil) rfl, tr_yes (by show (c == c) = true; simp), tr_opt, Is_eq _ _ (by show 2 ≤ 1000; omega), Option.bind_some, tr_yes (by show (i == c || (i == i || false)) = true; simp), tr_opt, Line_two, Option.bind_some, tr_ret]
    simp

theorem bad_eq {c : Int} (h : c ≠ 0) : parse_bad c = some (mkErr (some (9, c, 0))) := by
  unfold parse_bad parse_bad.t
  rw [tr_opt, New_eq (by simpa using h), Option.bind_some, tr_opt, Wrap_eq rfl (by decide), Option.bind_some, tr_ret]
  rfl

end Go.Proofs.Pen

namespace Go.Proofs.Pen
open Go Go.Proofs
def ref24_Takes.L0 : List (Nat × Lay) := [(0, .val .str), (2, .val TI), (3, .val TI), (4, .row .str), (5, .row TI), (6, .row TI), (7, .val TI)]
noncomputable def ref24_Takes.t0 (x : ByteArray × Int × Int × List ByteArray × List Int × List Int × Int × Unit) : T (Ex × ByteArray × Int × Int × List ByteArray × List Int × List Int × Int × Unit) := T.ite (decide (x.2.2.2.2.2.2.1 < (9 : Int))) (T.ite (decide ((0 : Int) ≤ x.2.2.2.2.2.2.1) && decide (x.2.2.2.2.2.2.1 < (↑x.2.2.2.1.length : Int))) (T.opt x.2.2.2.1[(0 : Nat) + Int.toNat x.2.2.2.2.2.2.1]? fun y => T.ite (ByteArray.toList y == ByteArray.toList x.1) (T.ite (decide ((0 : Int) ≤ x.2.2.2.2.2.2.1) && decide (x.2.2.2.2.2.2.1 < (↑x.2.2.2.2.1.length : Int))) (T.opt x.2.2.2.2.1[(0 : Nat) + Int.toNat x.2.2.2.2.2.2.1]? fun y => T.ite (decide ((0 : Int) ≤ x.2.2.2.2.2.2.1) && decide (x.2.2.2.2.2.2.1 < (↑x.2.2.2.2.2.1.length : Int))) (T.opt x.2.2.2.2.2.1[(0 : Nat) + Int.toNat x.2.2.2.2.2.2.1]? fun y_1 => T.ret (Ex.ret, x.1, y, y_1, List.take x.2.2.2.1.length x.2.2.2.1, List.take x.2.2.2.2.1.length x.2.2.2.2.1, List.take x.2.2.2.2.2.1.length x.2.2.2.2.2.1, x.2.2.2.2.2.2.1, ())) T.fail) T.fail) (T.ret (Ex.normal, x.1, x.2.1, x.2.2.1, List.take x.2.2.2.1.length x.2.2.2.1, List.take x.2.2.2.2.1.length x.2.2.2.2.1, List.take x.2.2.2.2.2.1.length x.2.2.2.2.2.1, W (x.2.2.2.2.2.2.1 + (1 : Int)), ()))) T.fail) (T.ret (Ex.exit (0 : Nat), x.1, x.2.1, x.2.2.1, List.take x.2.2.2.1.length x.2.2.2.1, List.take x.2.2.2.2.1.length x.2.2.2.2.1, List.take x.2.2.2.2.2.1.length x.2.2.2.2.2.1, x.2.2.2.2.2.2.1, ()))
noncomputable def ref24_Takes.l0 (x : ByteArray × Int × Int × List ByteArray × List Int × List Int × Int × Unit) : Option (Ex × ByteArray × Int × Int × List ByteArray × List Int × List Int × Int × Unit) := (iterT ref24_Takes.t0 rounds x).run
theorem ref24_Takes.k0 : bodies 0 (lp Tryz.f35 []) = [.loop (loopIn 0 (lp Tryz.f35 []))] ∧ WP Tryz.prog 0 (.block 0 (.loop (loopIn 0 (lp Tryz.f35 [])))) (loopS ref24_Takes.L0 29 0 [.exit 0, .ret] ref24_Takes.l0) :=
  loop_tree (L := ref24_Takes.L0) (F := ({ quiet := Xs, deep := noDeep } : Fns)) (D := D0) (tab := []) (t := ref24_Takes.t0) mixed Xok (deep_none _) (fun _ => rfl) (by kernel_rfl) (by kernel_rfl) trivial (fun x => by kernel_rfl)
noncomputable def ref24_Takes.t (x : ByteArray) : T (Int × Int) := T.opt (ref24_Takes.l0 (x, (0 : Int), (0 : Int), List.take (9 : Nat) [(ByteArray.mk #[(109 : UInt8), (97 : UInt8), (116 : UInt8)]), (ByteArray.mk #[(109 : UInt8), (97 : UInt8), (116 : UInt8), (116 : UInt8)]), (ByteArray.mk #[(116 : UInt8), (114 : UInt8), (105 : UInt8)]), (ByteArray.mk #[(108 : UInt8), (105 : UInt8), (103 : UInt8), (104 : UInt8), (116 : UInt8)]), (ByteArray.mk #[(115 : UInt8), (107 : UInt8), (121 : UInt8)]), (ByteArray.mk #[(99 : UInt8), (101 : UInt8), (108 : UInt8), (108 : UInt8)]), (ByteArray.mk #[(99 : UInt8), (97 : UInt8), (109 : UInt8), (101 : UInt8), (114 : UInt8), (97 : UInt8)]), (ByteArray.mk #[(112 : UInt8), (105 : UInt8), (110 : UInt8), (104 : UInt8), (111 : UInt8), (108 : UInt8), (101 : UInt8)]), (ByteArray.mk #[(102 : UInt8), (105 : UInt8), (108 : UInt8), (116 : UInt8), (101 : UInt8), (114 : UInt8)])], List.take (9 : Nat) [(7 : Int), (3 : Int), (10 : Int), (4 : Int), (1 : Int), (3 : Int), (12 : Int), (10 : Int), (2 : Int)], List.take (9 : Nat) [(0 : Int), (0 : Int), (1 : Int), (1 : Int), (1 : Int), (0 : Int), (0 : Int), (0 : Int), (1 : Int)], (0 : Int), ())) fun y => T.ite (exEq y.1 (Ex.exit (0 : Nat))) (T.ret ((-1 : Int), (0 : Int))) (T.ite (exEq y.1 Ex.ret) (T.ret (y.2.2.1, y.2.2.2.1)) T.fail)
noncomputable def ref24_Takes (x : ByteArray) : Option (Int × Int) := (ref24_Takes.t x).run
noncomputable def ref24_Takes.q : List AV → T AV := entry [.str] (outR [TI, TI]) fun x => .opt (ref24_Takes x) .ret
theorem ref24_Takes.ok : FnOK Tryz.prog 35 ref24_Takes.q :=
  entry_call (ps := [.str]) (rs := [TI, TI]) (F := ({ quiet := Xs, deep := noDeep } : Fns)) (D := D0) (S := tabS [(0, loopS ref24_Takes.L0 29 0 [.exit 0, .ret] ref24_Takes.l0)]) (t := ref24_Takes.t) mixed Xok (deep_none _) Tryz.func35 (by kernel_rfl) (sok_fn ⟨ref24_Takes.k0, trivial⟩) (by kernel_rfl) (fun x => by kernel_rfl)
end Go.Proofs.Pen

namespace Go.Proofs.Pen
open Go Go.Proofs
def ref24_Numbers.L0 : List (Nat × Lay) := [(0, .val (.sl .str)), (1, .val TI), (4, .row TI), (5, .val .bool), (6, .row TI), (7, .val TI)]
noncomputable def ref24_Numbers.t0 (x : (List (ByteArray)) × Int × List Int × Bool × List Int × Int × Unit) : T (Ex × (List (ByteArray)) × Int × List Int × Bool × List Int × Int × Unit) := T.ite (decide (x.2.2.2.2.2.1 < (↑(List.length x.1) : Int))) (T.opt (lget x.1 x.2.2.2.2.2.1) fun y => T.opt (ref23_Number y) fun y => T.ite (decide (x.2.2.2.2.2.1 ≤ x.2.1)) (T.ite (Int.tmod y.1 (1024 : Int) != (0 : Int)) (T.ret (Ex.ret, x.1, x.2.1, [], false, List.take x.2.2.2.2.1.length x.2.2.2.2.1, x.2.2.2.2.2.1, ())) (T.ite (!y.2) (T.ret (Ex.ret, x.1, x.2.1, [], false, List.take x.2.2.2.2.1.length x.2.2.2.2.1, x.2.2.2.2.2.1, ())) (T.ite (decide (x.2.2.2.2.2.1 ≤ x.2.1)) (T.ite (decide ((x.2.2.2.2.1.length + (1 : Nat)) * nat_lit 8 ≤ most)) (T.ret (Ex.normal, x.1, x.2.1, List.take x.2.2.1.length x.2.2.1, x.2.2.2.1, List.take (x.2.2.2.2.1.length + (1 : Nat)) (List.take x.2.2.2.2.1.length x.2.2.2.2.1 ++ [W (Int.tdiv y.1 (1024 : Int))]), W (x.2.2.2.2.2.1 + (1 : Int)), ())) T.fail) (T.ite (decide ((x.2.2.2.2.1.length + (1 : Nat)) * nat_lit 8 ≤ most)) (T.ret (Ex.normal, x.1, x.2.1, List.take x.2.2.1.length x.2.2.1, x.2.2.2.1, List.take (x.2.2.2.2.1.length + (1 : Nat)) (List.take x.2.2.2.2.1.length x.2.2.2.2.1 ++ [y.1]), W (x.2.2.2.2.2.1 + (1 : Int)), ())) T.fail)))) (T.ite (!y.2) (T.ret (Ex.ret, x.1, x.2.1, [], false, List.take x.2.2.2.2.1.length x.2.2.2.2.1, x.2.2.2.2.2.1, ())) (T.ite (decide (x.2.2.2.2.2.1 ≤ x.2.1)) (T.ite (decide ((x.2.2.2.2.1.length + (1 : Nat)) * nat_lit 8 ≤ most)) (T.ret (Ex.normal, x.1, x.2.1, List.take x.2.2.1.length x.2.2.1, x.2.2.2.1, List.take (x.2.2.2.2.1.length + (1 : Nat)) (List.take x.2.2.2.2.1.length x.2.2.2.2.1 ++ [W (Int.tdiv y.1 (1024 : Int))]), W (x.2.2.2.2.2.1 + (1 : Int)), ())) T.fail) (T.ite (decide ((x.2.2.2.2.1.length + (1 : Nat)) * nat_lit 8 ≤ most)) (T.ret (Ex.normal, x.1, x.2.1, List.take x.2.2.1.length x.2.2.1, x.2.2.2.1, List.take (x.2.2.2.2.1.length + (1 : Nat)) (List.take x.2.2.2.2.1.length x.2.2.2.2.1 ++ [y.1]), W (x.2.2.2.2.2.1 + (1 : Int)), ())) T.fail)))) (T.ret (Ex.exit (0 : Nat), x.1, x.2.1, List.take x.2.2.1.length x.2.2.1, x.2.2.2.1, List.take x.2.2.2.2.1.length x.2.2.2.2.1, x.2.2.2.2.2.1, ()))
noncomputable def ref24_Numbers.l0 (x : (List (ByteArray)) × Int × List Int × Bool × List Int × Int × Unit) : Option (Ex × (List (ByteArray)) × Int × List Int × Bool × List Int × Int × Unit) := (iterT ref24_Numbers.t0 rounds x).run
theorem ref24_Numbers.k0 : bodies 0 (lp Tryz.f36 []) = [.loop (loopIn 0 (lp Tryz.f36 []))] ∧ WP Tryz.prog 0 (.block 0 (.loop (loopIn 0 (lp Tryz.f36 [])))) (loopS ref24_Numbers.L0 44 0 [.exit 0, .ret] ref24_Numbers.l0) :=
  loop_tree (L := ref24_Numbers.L0) (F := ({ quiet := (ext Xs 64 ref23_Number.q), deep := noDeep } : Fns)) (D := D0) (tab := []) (t := ref24_Numbers.t0) mixed (quiet_ext Xok ref23_Number.ok) (deep_none _) (fun _ => rfl) (by kernel_rfl) (by kernel_rfl) trivial (fun x => by kernel_rfl)
noncomputable def ref24_Numbers.t (x : (List (ByteArray)) × Int) : T ((List (Int)) × Bool) := T.opt (ref24_Numbers.l0 (x.1, x.2, [], false, [], (1 : Int), ())) fun y => T.ite (exEq y.1 (Ex.exit (0 : Nat))) (T.ret (List.take y.2.2.2.2.2.1.length y.2.2.2.2.2.1, true)) (T.ite (exEq y.1 Ex.ret) (T.ret (List.take y.2.2.2.1.length y.2.2.2.1, y.2.2.2.2.1)) T.fail)
noncomputable def ref24_Numbers (x : (List (ByteArray)) × Int) : Option ((List (Int)) × Bool) := (ref24_Numbers.t x).run
noncomputable def ref24_Numbers.q : List AV → T AV := entry [(.sl .str), TI] (outR [(.sl TI), .bool]) fun x => .opt (ref24_Numbers x) .ret
theorem ref24_Numbers.ok : FnOK Tryz.prog 36 ref24_Numbers.q :=
  entry_call (ps := [(.sl .str), TI]) (rs := [(.sl TI), .bool]) (F := ({ quiet := (ext Xs 64 ref23_Number.q), deep := noDeep } : Fns)) (D := D0) (S := tabS [(0, loopS ref24_Numbers.L0 44 0 [.exit 0, .ret] ref24_Numbers.l0)]) (t := ref24_Numbers.t) mixed (quiet_ext Xok ref23_Number.ok) (deep_none _) Tryz.func36 (by kernel_rfl) (sok_fn ⟨ref24_Numbers.k0, trivial⟩) (by kernel_rfl) (fun x => by kernel_rfl)
end Go.Proofs.Pen

namespace Go.Proofs.Pen
open Go Go.Proofs
noncomputable def ref24_P.t (x : (List (Int)) × Int) : T ((Int × Int × Int)) := T.opt (lget x.1 x.2) fun y => T.opt (lget x.1 (W (x.2 + (1 : Int)))) fun y_1 => T.opt (lget x.1 (W (x.2 + (2 : Int)))) fun y_2 => T.ret (y, y_1, y_2)
noncomputable def ref24_P (x : (List (Int)) × Int) : Option ((Int × Int × Int)) := (ref24_P.t x).run
noncomputable def ref24_P.q : List AV → T AV := entry [(.sl TI), TI] (outR [TP]) fun x => .opt (ref24_P x) .ret
theorem ref24_P.ok : FnOK Tryz.prog 65 ref24_P.q :=
  entry_call (ps := [(.sl TI), TI]) (rs := [TP]) (F := ({ quiet := Xs, deep := noDeep } : Fns)) (D := D0) (S := tabS []) (t := ref24_P.t) mixed Xok (deep_none _) Tryz.func65 (by kernel_rfl) (sok_fn trivial) (by kernel_rfl) (fun x => by kernel_rfl)
end Go.Proofs.Pen

namespace Go.Proofs.Pen
open Go Go.Proofs
noncomputable def ref24_Put.t (x : ((List ((Int × Int × Int) × (Int × Int × Int) × Int)) × (List ((Int × Int × Int) × (Int × Int × Int) × (Int × Int × Int) × Int)) × (List (Int × Int × Int × Int)) × Int × (List (Int × Int × Int)) × ((Int × Int × Int) × (Int × Int × Int) × (Int × Int × Int) × Int × Int × Int) × Int × Int) × ByteArray × (List (Int))) : T (((List ((Int × Int × Int) × (Int × Int × Int) × Int)) × (List ((Int × Int × Int) × (Int × Int × Int) × (Int × Int × Int) × Int)) × (List (Int × Int × Int × Int)) × Int × (List (Int × Int × Int)) × ((Int × Int × Int) × (Int × Int × Int) × (Int × Int × Int) × Int × Int × Int) × Int × Int)) := T.ite (ByteArray.toList x.2.1 == (ByteArray.mk #[(109 : UInt8), (97 : UInt8), (116 : UInt8)]).toList) (T.ite (decide (((0 : Nat) + List.length x.1.1) * nat_lit 56 ≤ most)) (T.opt (ref24_P (x.2.2, (0 : Int))) fun y => T.opt (ref24_P (x.2.2, (3 : Int))) fun y_1 => T.opt (lget x.2.2 (6 : Int)) fun y_2 => T.ite (decide (((0 : Nat) + List.length x.1.1 + (1 : Nat)) * nat_lit 56 ≤ most)) (T.ret (List.take ((0 : Nat) + List.length x.1.1 + (1 : Nat)) (List.take ((0 : Nat) + List.length x.1.1) (List.take (0 : Nat) [] ++ x.1.1) ++ [(y, y_1, y_2)]), x.1.2)) T.fail) T.fail) (T.ite (ByteArray.toList x.2.1 == (ByteArray.mk #[(109 : UInt8), (97 : UInt8), (116 : UInt8), (116 : UInt8)]).toList) (T.ite (decide (((0 : Nat) + List.length x.1.1) * nat_lit 56 ≤ most)) (T.opt (ref24_P (x.2.2, (0 : Int))) fun y => T.ite (decide (((0 : Nat) + List.length x.1.1 + (1 : Nat)) * nat_lit 56 ≤ most)) (T.ret (List.take ((0 : Nat) + List.length x.1.1 + (1 : Nat)) (List.take ((0 : Nat) + List.length x.1.1) (List.take (0 : Nat) [] ++ x.1.1) ++ [(y, ((0 : Int), (0 : Int), (0 : Int)), (1024 : Int))]), x.1.2)) T.fail) T.fail) (T.ite (ByteArray.toList x.2.1 == (ByteArray.mk #[(116 : UInt8), (114 : UInt8), (105 : UInt8)]).toList) (T.ite (decide (((0 : Nat) + List.length x.1.2.1) * nat_lit 80 ≤ most)) (T.opt (ref24_P (x.2.2, (1 : Int))) fun y => T.opt (ref24_P (x.2.2, (4 : Int))) fun y_1 => T.opt (ref24_P (x.2.2, (7 : Int))) fun y_2 => T.opt (lget x.2.2 (0 : Int)) fun y_3 => T.ite (decide (((0 : Nat) + List.length x.1.2.1 + (1 : Nat)) * nat_lit 80 ≤ most)) (T.ret (x.1.1, List.take ((0 : Nat) + List.length x.1.2.1 + (1 : Nat)) (List.take ((0 : Nat) + List.length x.1.2.1) (List.take (0 : Nat) [] ++ x.1.2.1) ++ [(y, y_1, y_2, y_3)]), x.1.2.2)) T.fail) T.fail) (T.ite (ByteArray.toList x.2.1 == (ByteArray.mk #[(108 : UInt8), (105 : UInt8), (103 : UInt8), (104 : UInt8), (116 : UInt8)]).toList) (T.ite (decide (((0 : Nat) + List.length x.1.2.2.1) * nat_lit 32 ≤ most)) (T.opt (lget x.2.2 (0 : Int)) fun y => T.opt (ref24_P (x.2.2, (1 : Int))) fun y_1 => T.ite (decide (((0 : Nat) + List.length x.1.2.2.1 + (1 : Nat)) * nat_lit 32 ≤ most)) (T.ret (x.1.1, x.1.2.1, List.take ((0 : Nat) + List.length x.1.2.2.1 + (1 : Nat)) (List.take ((0 : Nat) + List.length x.1.2.2.1) (List.take (0 : Nat) [] ++ x.1.2.2.1) ++ [(y, y_1)]), x.1.2.2.2)) T.fail) T.fail) (T.ite (ByteArray.toList x.2.1 == (ByteArray.mk #[(99 : UInt8), (101 : UInt8), (108 : UInt8), (108 : UInt8)]).toList) (T.ite (decide (((0 : Nat) + List.length x.1.2.2.2.2.1) * nat_lit 24 ≤ most)) (T.opt (ref24_P (x.2.2, (0 : Int))) fun y => T.ite (decide (((0 : Nat) + List.length x.1.2.2.2.2.1 + (1 : Nat)) * nat_lit 24 ≤ most)) (T.ret (x.1.1, x.1.2.1, x.1.2.2.1, x.1.2.2.2.1, List.take ((0 : Nat) + List.length x.1.2.2.2.2.1 + (1 : Nat)) (List.take ((0 : Nat) + List.length x.1.2.2.2.2.1) (List.take (0 : Nat) [] ++ x.1.2.2.2.2.1) ++ [y]), x.1.2.2.2.2.2)) T.fail) T.fail) (T.ite (ByteArray.toList x.2.1 == (ByteArray.mk #[(115 : UInt8), (107 : UInt8), (121 : UInt8)]).toList) (T.opt (lget x.2.2 (0 : Int)) fun y => T.ret (x.1.1, x.1.2.1, x.1.2.2.1, y, x.1.2.2.2.2)) (T.ite (ByteArray.toList x.2.1 == (ByteArray.mk #[(102 : UInt8), (105 : UInt8), (108 : UInt8), (116 : UInt8), (101 : UInt8), (114 : UInt8)]).toList) (T.opt (lget x.2.2 (0 : Int)) fun y => T.opt (lget x.2.2 (1 : Int)) fun y_1 => T.ret (x.1.1, x.1.2.1, x.1.2.2.1, x.1.2.2.2.1, x.1.2.2.2.2.1, x.1.2.2.2.2.2.1, y, y_1)) (T.ite (ByteArray.toList x.2.1 == (ByteArray.mk #[(99 : UInt8), (97 : UInt8), (109 : UInt8), (101 : UInt8), (114 : UInt8), (97 : UInt8)]).toList) (T.opt (ref24_P (x.2.2, (0 : Int))) fun y => T.opt (ref24_P (x.2.2, (3 : Int))) fun y_1 => T.opt (ref24_P (x.2.2, (6 : Int))) fun y_2 => T.opt (lget x.2.2 (9 : Int)) fun y_3 => T.opt (lget x.2.2 (10 : Int)) fun y_4 => T.opt (lget x.2.2 (11 : Int)) fun y_5 => T.ret (x.1.1, x.1.2.1, x.1.2.2.1, x.1.2.2.2.1, x.1.2.2.2.2.1, (y, y_1, y_2, y_3, y_4, y_5), x.1.2.2.2.2.2.2)) (T.ite (ByteArray.toList x.2.1 == (ByteArray.mk #[(112 : UInt8), (105 : UInt8), (110 : UInt8), (104 : UInt8), (111 : UInt8), (108 : UInt8), (101 : UInt8)]).toList) (T.opt (ref24_P (x.2.2, (0 : Int))) fun y => T.opt (ref24_P (x.2.2, (3 : Int))) fun y_1 => T.opt (ref24_P (x.2.2, (6 : Int))) fun y_2 => T.opt (lget x.2.2 (9 : Int)) fun y_3 => T.ret (x.1.1, x.1.2.1, x.1.2.2.1, x.1.2.2.2.1, x.1.2.2.2.2.1, (y, y_1, y_2, y_3, (0 : Int), (1024 : Int)), x.1.2.2.2.2.2.2)) (T.ret x.1)))))))))
noncomputable def ref24_Put (x : ((List ((Int × Int × Int) × (Int × Int × Int) × Int)) × (List ((Int × Int × Int) × (Int × Int × Int) × (Int × Int × Int) × Int)) × (List (Int × Int × Int × Int)) × Int × (List (Int × Int × Int)) × ((Int × Int × Int) × (Int × Int × Int) × (Int × Int × Int) × Int × Int × Int) × Int × Int) × ByteArray × (List (Int))) : Option (((List ((Int × Int × Int) × (Int × Int × Int) × Int)) × (List ((Int × Int × Int) × (Int × Int × Int) × (Int × Int × Int) × Int)) × (List (Int × Int × Int × Int)) × Int × (List (Int × Int × Int)) × ((Int × Int × Int) × (Int × Int × Int) × (Int × Int × Int) × Int × Int × Int) × Int × Int)) := (ref24_Put.t x).run
noncomputable def ref24_Put.q : List AV → T AV := entry [TScn, .str, (.sl TI)] (outR [TScn]) fun x => .opt (ref24_Put x) .ret
theorem ref24_Put.ok : FnOK Tryz.prog 37 ref24_Put.q :=
  entry_call (ps := [TScn, .str, (.sl TI)]) (rs := [TScn]) (F := ({ quiet := (ext Xs 65 ref24_P.q), deep := noDeep } : Fns)) (D := D0) (S := tabS []) (t := ref24_Put.t) mixed (quiet_ext Xok ref24_P.ok) (deep_none _) Tryz.func37 (by kernel_rfl) (sok_fn trivial) (by kernel_rfl) (fun x => by kernel_rfl)
end Go.Proofs.Pen

namespace Go.Proofs.Pen
open Go Go.Proofs
def ref24_Parse.L0 : List (Nat × Lay) := [(2, .box TScn), (3, .box TP), (4, .box TScn), (5, .val .bool), (6, .val .bool), (7, .val .bool), (8, .val (.sl .str)), (9, .val TI)]
noncomputable def ref24_Parse.t0 (x : ((List ((Int × Int × Int) × (Int × Int × Int) × Int)) × (List ((Int × Int × Int) × (Int × Int × Int) × (Int × Int × Int) × Int)) × (List (Int × Int × Int × Int)) × Int × (List (Int × Int × Int)) × ((Int × Int × Int) × (Int × Int × Int) × (Int × Int × Int) × Int × Int × Int) × Int × Int) × (Int × Int × Int) × ((List ((Int × Int × Int) × (Int × Int × Int) × Int)) × (List ((Int × Int × Int) × (Int × Int × Int) × (Int × Int × Int) × Int)) × (List (Int × Int × Int × Int)) × Int × (List (Int × Int × Int)) × ((Int × Int × Int) × (Int × Int × Int) × (Int × Int × Int) × Int × Int × Int) × Int × Int) × Bool × Bool × Bool × (List (ByteArray)) × Int × Unit) : T (Ex × ((List ((Int × Int × Int) × (Int × Int × Int) × Int)) × (List ((Int × Int × Int) × (Int × Int × Int) × (Int × Int × Int) × Int)) × (List (Int × Int × Int × Int)) × Int × (List (Int × Int × Int)) × ((Int × Int × Int) × (Int × Int × Int) × (Int × Int × Int) × Int × Int × Int) × Int × Int) × (Int × Int × Int) × ((List ((Int × Int × Int) × (Int × Int × Int) × Int)) × (List ((Int × Int × Int) × (Int × Int × Int) × (Int × Int × Int) × Int)) × (List (Int × Int × Int × Int)) × Int × (List (Int × Int × Int)) × ((Int × Int × Int) × (Int × Int × Int) × (Int × Int × Int) × Int × Int × Int) × Int × Int) × Bool × Bool × Bool × (List (ByteArray)) × Int × Unit) := T.ite (decide (x.2.2.2.2.2.2.2.1 < (↑(List.length x.2.2.2.2.2.2.1) : Int))) (T.opt (lget x.2.2.2.2.2.2.1 x.2.2.2.2.2.2.2.1) fun y => T.opt (ref23_Words y) fun y => T.ite ((↑y.length : Int) == (0 : Int)) (T.ret (Ex.normal, x.1, x.2.1, x.2.2.1, x.2.2.2.1, x.2.2.2.2.1, x.2.2.2.2.2.1, x.2.2.2.2.2.2.1, W (x.2.2.2.2.2.2.2.1 + (1 : Int)), ())) (T.opt (lget y (0 : Int)) fun y_1 => T.opt (ref24_Takes y_1) fun y_2 => T.ite (decide (y_2.fst < (0 : Int))) (T.ret (Ex.ret, ([], [], [], (0 : Int), [], (((0 : Int), (0 : Int), (0 : Int)), ((0 : Int), (0 : Int), (0 : Int)), ((0 : Int), (0 : Int), (0 : Int)), (0 : Int), (0 : Int), (0 : Int)), (0 : Int), (0 : Int)), ((9 : Int), (15 : Int), W (x.2.2.2.2.2.2.2.1 + (1 : Int))), x.2.2.1, x.2.2.2.1, x.2.2.2.2.1, x.2.2.2.2.2.1, x.2.2.2.2.2.2.1, x.2.2.2.2.2.2.2.1, ())) (T.ite (W ((↑y.length : Int) - (1 : Int)) != y_2.fst) (T.ret (Ex.ret, ([], [], [], (0 : Int), [], (((0 : Int), (0 : Int), (0 : Int)), ((0 : Int), (0 : Int), (0 : Int)), ((0 : Int), (0 : Int), (0 : Int)), (0 : Int), (0 : Int), (0 : Int)), (0 : Int), (0 : Int)), ((9 : Int), (14 : Int), W (x.2.2.2.2.2.2.2.1 + (1 : Int))), x.2.2.1, x.2.2.2.1, x.2.2.2.2.1, x.2.2.2.2.2.1, x.2.2.2.2.2.2.1, x.2.2.2.2.2.2.2.1, ())) (T.opt (ref24_Numbers (y, y_2.snd)) fun y_3 => T.ite (!y_3.snd) (T.ret (Ex.ret, ([], [], [], (0 : Int), [], (((0 : Int), (0 : Int), (0 : Int)), ((0 : Int), (0 : Int), (0 : Int)), ((0 : Int), (0 : Int), (0 : Int)), (0 : Int), (0 : Int), (0 : Int)), (0 : Int), (0 : Int)), ((9 : Int), (6 : Int), W (x.2.2.2.2.2.2.2.1 + (1 : Int))), x.2.2.1, x.2.2.2.1, x.2.2.2.2.1, x.2.2.2.2.2.1, x.2.2.2.2.2.2.1, x.2.2.2.2.2.2.2.1, ())) (T.opt (lget y (0 : Int)) fun y_4 => T.ite (ByteArray.toList y_4 == (ByteArray.mk #[(99 : UInt8), (97 : UInt8), (109 : UInt8), (101 : UInt8), (114 : UInt8), (97 : UInt8)]).toList) (T.ite x.2.2.2.1 (T.ret (Ex.ret, ([], [], [], (0 : Int), [], (((0 : Int), (0 : Int), (0 : Int)), ((0 : Int), (0 : Int), (0 : Int)), ((0 : Int), (0 : Int), (0 : Int)), (0 : Int), (0 : Int), (0 : Int)), (0 : Int), (0 : Int)), ((9 : Int), (2 : Int), W (x.2.2.2.2.2.2.2.1 + (1 : Int))), x.2.2.1, x.2.2.2.1, x.2.2.2.2.1, x.2.2.2.2.2.1, x.2.2.2.2.2.2.1, x.2.2.2.2.2.2.2.1, ())) (T.opt (lget y (0 : Int)) fun y_5 => T.ite (ByteArray.toList y_5 == (ByteArray.mk #[(115 : UInt8), (107 : UInt8), (121 : UInt8)]).toList && x.2.2.2.2.1) (T.ret (Ex.ret, ([], [], [], (0 : Int), [], (((0 : Int), (0 : Int), (0 : Int)), ((0 : Int), (0 : Int), (0 : Int)), ((0 : Int), (0 : Int), (0 : Int)), (0 : Int), (0 : Int), (0 : Int)), (0 : Int), (0 : Int)), ((9 : Int), (2 : Int), W (x.2.2.2.2.2.2.2.1 + (1 : Int))), x.2.2.1, x.2.2.2.1, x.2.2.2.2.1, x.2.2.2.2.2.1, x.2.2.2.2.2.2.1, x.2.2.2.2.2.2.2.1, ())) (T.opt (lget y (0 : Int)) fun y_6 => T.ite (ByteArray.toList y_6 == (ByteArray.mk #[(102 : UInt8), (105 : UInt8), (108 : UInt8), (116 : UInt8), (101 : UInt8), (114 : UInt8)]).toList && x.2.2.2.2.2.1) (T.ret (Ex.ret, ([], [], [], (0 : Int), [], (((0 : Int), (0 : Int), (0 : Int)), ((0 : Int), (0 : Int), (0 : Int)), ((0 : Int), (0 : Int), (0 : Int)), (0 : Int), (0 : Int), (0 : Int)), (0 : Int), (0 : Int)), ((9 : Int), (2 : Int), W (x.2.2.2.2.2.2.2.1 + (1 : Int))), x.2.2.1, x.2.2.2.1, x.2.2.2.2.1, x.2.2.2.2.2.1, x.2.2.2.2.2.2.1, x.2.2.2.2.2.2.2.1, ())) (T.ite x.2.2.2.2.1 (T.ite x.2.2.2.2.2.1 (T.opt (lget y (0 : Int)) fun y => T.opt (ref24_Put (x.2.2.1, y, y_3.fst)) fun y => T.ret (Ex.normal, x.1, x.2.1, y, true, true, true, x.2.2.2.2.2.2.1, W (x.2.2.2.2.2.2.2.1 + (1 : Int)), ())) (T.opt (lget y (0 : Int)) fun y_7 => T.opt (lget y (0 : Int)) fun y => T.opt (ref24_Put (x.2.2.1, y, y_3.fst)) fun y => T.ret (Ex.normal, x.1, x.2.1, y, true, true, ByteArray.toList y_7 == (ByteArray.mk #[(102 : UInt8), (105 : UInt8), (108 : UInt8), (116 : UInt8), (101 : UInt8), (114 : UInt8)]).toList, x.2.2.2.2.2.2.1, W (x.2.2.2.2.2.2.2.1 + (1 : Int)), ()))) (T.opt (lget y (0 : Int)) fun y_7 => T.ite x.2.2.2.2.2.1 (T.opt (lget y (0 : Int)) fun y => T.opt (ref24_Put (x.2.2.1, y, y_3.fst)) fun y => T.ret (Ex.normal, x.1, x.2.1, y, true, ByteArray.toList y_7 == (ByteArray.mk #[(115 : UInt8), (107 : UInt8), (121 : UInt8)]).toList, true, x.2.2.2.2.2.2.1, W (x.2.2.2.2.2.2.2.1 + (1 : Int)), ())) (T.opt (lget y (0 : Int)) fun y_8 => T.opt (lget y (0 : Int)) fun y => T.opt (ref24_Put (x.2.2.1, y, y_3.fst)) fun y => T.ret (Ex.normal, x.1, x.2.1, y, true, ByteArray.toList y_7 == (ByteArray.mk #[(115 : UInt8), (107 : UInt8), (121 : UInt8)]).toList, ByteArray.toList y_8 == (ByteArray.mk #[(102 : UInt8), (105 : UInt8), (108 : UInt8), (116 : UInt8), (101 : UInt8), (114 : UInt8)]).toList, x.2.2.2.2.2.2.1, W (x.2.2.2.2.2.2.2.1 + (1 : Int)), ()))))))) (T.opt (lget y (0 : Int)) fun y_5 => T.ite (ByteArray.toList y_5 == (ByteArray.mk #[(112 : UInt8), (105 : UInt8), (110 : UInt8), (104 : UInt8), (111 : UInt8), (108 : UInt8), (101 : UInt8)]).toList && x.2.2.2.1) (T.ret (Ex.ret, ([], [], [], (0 : Int), [], (((0 : Int), (0 : Int), (0 : Int)), ((0 : Int), (0 : Int), (0 : Int)), ((0 : Int), (0 : Int), (0 : Int)), (0 : Int), (0 : Int), (0 : Int)), (0 : Int), (0 : Int)), ((9 : Int), (2 : Int), W (x.2.2.2.2.2.2.2.1 + (1 : Int))), x.2.2.1, x.2.2.2.1, x.2.2.2.2.1, x.2.2.2.2.2.1, x.2.2.2.2.2.2.1, x.2.2.2.2.2.2.2.1, ())) (T.opt (lget y (0 : Int)) fun y_6 => T.ite (ByteArray.toList y_6 == (ByteArray.mk #[(115 : UInt8), (107 : UInt8), (121 : UInt8)]).toList && x.2.2.2.2.1) (T.ret (Ex.ret, ([], [], [], (0 : Int), [], (((0 : Int), (0 : Int), (0 : Int)), ((0 : Int), (0 : Int), (0 : Int)), ((0 : Int), (0 : Int), (0 : Int)), (0 : Int), (0 : Int), (0 : Int)), (0 : Int), (0 : Int)), ((9 : Int), (2 : Int), W (x.2.2.2.2.2.2.2.1 + (1 : Int))), x.2.2.1, x.2.2.2.1, x.2.2.2.2.1, x.2.2.2.2.2.1, x.2.2.2.2.2.2.1, x.2.2.2.2.2.2.2.1, ())) (T.opt (lget y (0 : Int)) fun y_7 => T.ite (ByteArray.toList y_7 == (ByteArray.mk #[(102 : UInt8), (105 : UInt8), (108 : UInt8), (116 : UInt8), (101 : UInt8), (114 : UInt8)]).toList && x.2.2.2.2.2.1) (T.ret (Ex.ret, ([], [], [], (0 : Int), [], (((0 : Int), (0 : Int), (0 : Int)), ((0 : Int), (0 : Int), (0 : Int)), ((0 : Int), (0 : Int), (0 : Int)), (0 : Int), (0 : Int), (0 : Int)), (0 : Int), (0 : Int)), ((9 : Int), (2 : Int), W (x.2.2.2.2.2.2.2.1 + (1 : Int))), x.2.2.1, x.2.2.2.1, x.2.2.2.2.1, x.2.2.2.2.2.1, x.2.2.2.2.2.2.1, x.2.2.2.2.2.2.2.1, ())) (T.ite x.2.2.2.2.1 (T.ite x.2.2.2.2.2.1 (T.opt (lget y (0 : Int)) fun y => T.opt (ref24_Put (x.2.2.1, y, y_3.fst)) fun y => T.ret (Ex.normal, x.1, x.2.1, y, x.2.2.2.1 || ByteArray.toList y_5 == (ByteArray.mk #[(112 : UInt8), (105 : UInt8), (110 : UInt8), (104 : UInt8), (111 : UInt8), (108 : UInt8), (101 : UInt8)]).toList, true, true, x.2.2.2.2.2.2.1, W (x.2.2.2.2.2.2.2.1 + (1 : Int)), ())) (T.opt (lget y (0 : Int)) fun y_8 => T.opt (lget y (0 : Int)) fun y => T.opt (ref24_Put (x.2.2.1, y, y_3.fst)) fun y => T.ret (Ex.normal, x.1, x.2.1, y, x.2.2.2.1 || ByteArray.toList y_5 == (ByteArray.mk #[(112 : UInt8), (105 : UInt8), (110 : UInt8), (104 : UInt8), (111 : UInt8), (108 : UInt8), (101 : UInt8)]).toList, true, ByteArray.toList y_8 == (ByteArray.mk #[(102 : UInt8), (105 : UInt8), (108 : UInt8), (116 : UInt8), (101 : UInt8), (114 : UInt8)]).toList, x.2.2.2.2.2.2.1, W (x.2.2.2.2.2.2.2.1 + (1 : Int)), ()))) (T.opt (lget y (0 : Int)) fun y_8 => T.ite x.2.2.2.2.2.1 (T.opt (lget y (0 : Int)) fun y => T.opt (ref24_Put (x.2.2.1, y, y_3.fst)) fun y => T.ret (Ex.normal, x.1, x.2.1, y, x.2.2.2.1 || ByteArray.toList y_5 == (ByteArray.mk #[(112 : UInt8), (105 : UInt8), (110 : UInt8), (104 : UInt8), (111 : UInt8), (108 : UInt8), (101 : UInt8)]).toList, ByteArray.toList y_8 == (ByteArray.mk #[(115 : UInt8), (107 : UInt8), (121 : UInt8)]).toList, true, x.2.2.2.2.2.2.1, W (x.2.2.2.2.2.2.2.1 + (1 : Int)), ())) (T.opt (lget y (0 : Int)) fun y_9 => T.opt (lget y (0 : Int)) fun y => T.opt (ref24_Put (x.2.2.1, y, y_3.fst)) fun y => T.ret (Ex.normal, x.1, x.2.1, y, x.2.2.2.1 || ByteArray.toList y_5 == (ByteArray.mk #[(112 : UInt8), (105 : UInt8), (110 : UInt8), (104 : UInt8), (111 : UInt8), (108 : UInt8), (101 : UInt8)]).toList, ByteArray.toList y_8 == (ByteArray.mk #[(115 : UInt8), (107 : UInt8), (121 : UInt8)]).toList, ByteArray.toList y_9 == (ByteArray.mk #[(102 : UInt8), (105 : UInt8), (108 : UInt8), (116 : UInt8), (101 : UInt8), (114 : UInt8)]).toList, x.2.2.2.2.2.2.1, W (x.2.2.2.2.2.2.2.1 + (1 : Int)), ())))))))))))) (T.ret (Ex.exit (0 : Nat), x.1, x.2.1, x.2.2.1, x.2.2.2.1, x.2.2.2.2.1, x.2.2.2.2.2.1, x.2.2.2.2.2.2.1, x.2.2.2.2.2.2.2.1, ()))
noncomputable def ref24_Parse.l0 (x : ((List ((Int × Int × Int) × (Int × Int × Int) × Int)) × (List ((Int × Int × Int) × (Int × Int × Int) × (Int × Int × Int) × Int)) × (List (Int × Int × Int × Int)) × Int × (List (Int × Int × Int)) × ((Int × Int × Int) × (Int × Int × Int) × (Int × Int × Int) × Int × Int × Int) × Int × Int) × (Int × Int × Int) × ((List ((Int × Int × Int) × (Int × Int × Int) × Int)) × (List ((Int × Int × Int) × (Int × Int × Int) × (Int × Int × Int) × Int)) × (List (Int × Int × Int × Int)) × Int × (List (Int × Int × Int)) × ((Int × Int × Int) × (Int × Int × Int) × (Int × Int × Int) × Int × Int × Int) × Int × Int) × Bool × Bool × Bool × (List (ByteArray)) × Int × Unit) : Option (Ex × ((List ((Int × Int × Int) × (Int × Int × Int) × Int)) × (List ((Int × Int × Int) × (Int × Int × Int) × (Int × Int × Int) × Int)) × (List (Int × Int × Int × Int)) × Int × (List (Int × Int × Int)) × ((Int × Int × Int) × (Int × Int × Int) × (Int × Int × Int) × Int × Int × Int) × Int × Int) × (Int × Int × Int) × ((List ((Int × Int × Int) × (Int × Int × Int) × Int)) × (List ((Int × Int × Int) × (Int × Int × Int) × (Int × Int × Int) × Int)) × (List (Int × Int × Int × Int)) × Int × (List (Int × Int × Int)) × ((Int × Int × Int) × (Int × Int × Int) × (Int × Int × Int) × Int × Int × Int) × Int × Int) × Bool × Bool × Bool × (List (ByteArray)) × Int × Unit) := (iterT ref24_Parse.t0 rounds x).run
theorem ref24_Parse.k0 : bodies 0 (lp Tryz.f14 []) = [.loop (loopIn 0 (lp Tryz.f14 []))] ∧ WP Tryz.prog 0 (.block 0 (.loop (loopIn 0 (lp Tryz.f14 [])))) (loopS ref24_Parse.L0 147 0 [.exit 0, .ret] ref24_Parse.l0) :=
  loop_tree (L := ref24_Parse.L0) (F := ({ quiet := (ext (ext (ext (ext (ext (ext Xs 10 ref23_Split.q) 16 ref23_Words.q) 35 ref24_Takes.q) 36 ref24_Numbers.q) 37 ref24_Put.q) 8 ref22_Check.q), deep := noDeep } : Fns)) (D := D0) (tab := []) (t := ref24_Parse.t0) mixed (quiet_ext (quiet_ext (quiet_ext (quiet_ext (quiet_ext (quiet_ext Xok ref23_Split.ok) ref23_Words.ok) ref24_Takes.ok) ref24_Numbers.ok) ref24_Put.ok) ref22_Check.ok) (deep_none _) (fun _ => rfl) (by kernel_rfl) (by kernel_rfl) trivial (fun x => by kernel_rfl)
noncomputable def ref24_Parse.t (x : ByteArray) : T (((List ((Int × Int × Int) × (Int × Int × Int) × Int)) × (List ((Int × Int × Int) × (Int × Int × Int) × (Int × Int × Int) × Int)) × (List (Int × Int × Int × Int)) × Int × (List (Int × Int × Int)) × ((Int × Int × Int) × (Int × Int × Int) × (Int × Int × Int) × Int × Int × Int) × Int × Int) × (Int × Int × Int)) := T.opt (ref23_Split x) fun y => T.opt (ref24_Parse.l0 (([], [], [], (0 : Int), [], (((0 : Int), (0 : Int), (0 : Int)), ((0 : Int), (0 : Int), (0 : Int)), ((0 : Int), (0 : Int), (0 : Int)), (0 : Int), (0 : Int), (0 : Int)), (0 : Int), (0 : Int)), ((0 : Int), (0 : Int), (0 : Int)), ([], [], [], (0 : Int), [], (((0 : Int), (0 : Int), (0 : Int)), ((0 : Int), (0 : Int), (0 : Int)), ((0 : Int), (0 : Int), (0 : Int)), (0 : Int), (0 : Int), (0 : Int)), (1 : Int), (512 : Int)), false, false, false, y, (0 : Int), ())) fun y => T.ite (exEq y.1 (Ex.exit (0 : Nat))) (T.ite (!y.2.2.2.2.1) (T.ret (([], [], [], (0 : Int), [], (((0 : Int), (0 : Int), (0 : Int)), ((0 : Int), (0 : Int), (0 : Int)), ((0 : Int), (0 : Int), (0 : Int)), (0 : Int), (0 : Int), (0 : Int)), (0 : Int), (0 : Int)), (9 : Int), (8 : Int), (0 : Int))) (T.opt (ref22_Check y.2.2.2.1) fun y_1 => T.ite (!(y_1.fst == (0 : Int) && (y_1.snd.fst == (0 : Int) && y_1.snd.snd == (0 : Int)))) (T.ret (([], [], [], (0 : Int), [], (((0 : Int), (0 : Int), (0 : Int)), ((0 : Int), (0 : Int), (0 : Int)), ((0 : Int), (0 : Int), (0 : Int)), (0 : Int), (0 : Int), (0 : Int)), (0 : Int), (0 : Int)), y_1)) (T.ret (y.2.2.2.1, (0 : Int), (0 : Int), (0 : Int))))) (T.ite (exEq y.1 Ex.ret) (T.ret (y.2.1, y.2.2.1)) T.fail)
noncomputable def ref24_Parse (x : ByteArray) : Option (((List ((Int × Int × Int) × (Int × Int × Int) × Int)) × (List ((Int × Int × Int) × (Int × Int × Int) × (Int × Int × Int) × Int)) × (List (Int × Int × Int × Int)) × Int × (List (Int × Int × Int)) × ((Int × Int × Int) × (Int × Int × Int) × (Int × Int × Int) × Int × Int × Int) × Int × Int) × (Int × Int × Int)) := (ref24_Parse.t x).run
noncomputable def ref24_Parse.q : List AV → T AV := entry [.str] (outR [TScn, TP]) fun x => .opt (ref24_Parse x) .ret
theorem ref24_Parse.ok : FnOK Tryz.prog 14 ref24_Parse.q :=
  entry_call (ps := [.str]) (rs := [TScn, TP]) (F := ({ quiet := (ext (ext (ext (ext (ext (ext Xs 10 ref23_Split.q) 16 ref23_Words.q) 35 ref24_Takes.q) 36 ref24_Numbers.q) 37 ref24_Put.q) 8 ref22_Check.q), deep := noDeep } : Fns)) (D := D0) (S := tabS [(0, loopS ref24_Parse.L0 147 0 [.exit 0, .ret] ref24_Parse.l0)]) (t := ref24_Parse.t) mixed (quiet_ext (quiet_ext (quiet_ext (quiet_ext (quiet_ext (quiet_ext Xok ref23_Split.ok) ref23_Words.ok) ref24_Takes.ok) ref24_Numbers.ok) ref24_Put.ok) ref22_Check.ok) (deep_none _) Tryz.func14 (by kernel_rfl) (sok_fn ⟨ref24_Parse.k0, trivial⟩) (by kernel_rfl) (fun x => by kernel_rfl)
end Go.Proofs.Pen

namespace Go.Proofs.Pen
open Go Go.Proofs
noncomputable def law24_ParseReads.t (x : ByteArray) : T (Bool) := T.ite (decide ((↑(ByteArray.size x) : Int) > (6000 : Int))) (T.ret true) (T.opt (parse_Parse x) fun y => T.opt (ref24_Parse x) fun y_1 => T.ite true (T.opt (law24_same (y.2, y_1.snd)) fun y_2 => T.ite y_2 (T.opt (ref22_Same (y.1, y_1.fst)) fun y => T.ret y) (T.ret false)) (T.ret false))
noncomputable def law24_ParseReads (x : ByteArray) : Option (Bool) := (law24_ParseReads.t x).run
noncomputable def law24_ParseReads.q : List AV → T AV := entry [.str] (outR [.bool]) fun x => .opt (law24_ParseReads x) .ret
theorem law24_ParseReads.ok : FnOK Tryz.prog 4 law24_ParseReads.q :=
  entry_call (ps := [.str]) (rs := [.bool]) (F := ({ quiet := (ext (ext (ext (ext (ext (ext (ext Xs 9 law24_awake.q) 12 parse_Parse.q) 14 ref24_Parse.q) 15 law24_same.q) 13 ref22_Same.q) 86 scene_lights_1.q) 100 scene_within_1.q), deep := noDeep } : Fns)) (D := D0) (S := tabS []) (t := law24_ParseReads.t) mixed (quiet_ext (quiet_ext (quiet_ext (quiet_ext (quiet_ext (quiet_ext (quiet_ext Xok law24_awake.ok) parse_Parse.ok) ref24_Parse.ok) law24_same.ok) ref22_Same.ok) scene_lights_1.ok) scene_within_1.ok) (deep_none _) Tryz.func4 (by kernel_rfl) (sok_fn trivial) (by kernel_rfl) (fun x => by kernel_rfl)
end Go.Proofs.Pen

namespace Go.Proofs.Pen
open Go Go.Proofs

noncomputable def num1 (b : Bool) (x : ByteArray) : Option Int := match kv x with
  | none => none
  | some k => if b = true then (if k.tmod 1024 = 0 then some (k.tdiv 1024) else none) else some k
noncomputable def nums (wh : Int) : Nat → List ByteArray → Option (List Int)
  | _, [] => some []
  | i, x :: l => match num1 (decide ((i : Int) < wh)) x with
    | none => none
    | some k => match nums wh (i + 1) l with
      | none => none
      | some ks => some (k :: ks)

theorem kv_in {x : ByteArray} {k : Int} (h : kv x = some k) : -1099511627776 ≤ k ∧ k ≤ 1099511627776 := by
  rcases both x with ⟨e1, _⟩ | ⟨j, h0, h1, _, e1, _⟩
  · unfold kv at h; rw [e1] at h; cases h
  · unfold kv at h; rw [e1] at h; cases h; exact ⟨h0, h1⟩
theorem W_tdiv {k : Int} (h : -1099511627776 ≤ k ∧ k ≤ 1099511627776) : W (k.tdiv 1024) = k.tdiv 1024 := by
  have h3 := Int.tmod_add_mul_tdiv k 1024
  have := (tdv k (k := 1024) (by omega))
  exact W_id (by omega) (by omega)

theorem Number_num (x : ByteArray) : ∃ r, lex_Number x = some r ∧ (num1 false x = none → r.2 = false) ∧ ∀ k, num1 false x = some k → r = (k, true) := by
  unfold num1
  cases hk : kv x with
  | none => exact ⟨_, (kv_none hk).1, fun _ => rfl, fun k h => by simp at h⟩
  | some k => exact ⟨_, (kv_some hk).1, fun h => by simp at h, fun j h => by simp at h; rw [h]⟩
theorem Whole_num (x : ByteArray) : ∃ r, lex_Whole x = some r ∧ (num1 true x = none → r.2 = false) ∧ ∀ k, num1 true x = some k → r = (k, true) := by
  unfold lex_Whole lex_Whole.t num1
  cases hk : kv x with
  | none =>
    rw [(kv_none hk).1, tr_opt, Option.bind_some]
    dsimp only
    rw [tr_yes (b := !false) rfl, tr_ret]
    exact ⟨_, rfl, fun _ => rfl, fun k h => by simp at h⟩
  | some k =>
    rw [(kv_some hk).1, tr_opt, Option.bind_some]
    dsimp only
    rw [tr_no (b := !true) rfl, W_tdiv (kv_in hk)]
    by_cases hm : k.tmod 1024 = 0
    · rw [tr_no (by simp [hm]), tr_ret]
      exact ⟨_, rfl, fun h => by simp [hm] at h, fun j h => by simp [hm] at h; rw [h]⟩
    · rw [tr_yes (by simpa using hm), tr_ret]
      exact ⟨_, rfl, fun _ => rfl, fun j h => by simp [hm] at h⟩

theorem room8 {n : Nat} (h : n < 100000) : decide ((n + 1) * 8 ≤ most) = true := by
  rw [decide_eq_true_eq]; exact room h (by omega)

abbrev Rdr := List MatT × List TriT × List LitT × Int × List W3 × CamT × Int × Int × List (ByteArray × Bool) × Int × List ByteArray × Unit

theorem num_loop (z : ScT) (O : Rdr) (wh : Int) : ∀ (post pre : List ByteArray) (out : List Int) (m : Nat), pre.length + post.length ≤ 6000 → out.length ≤ pre.length → post.length < m →
    match nums wh pre.length post with
    | some ks => ∃ y, (iterT numLoop.t0 m (z, O, wh, [], .nil, out, pre ++ post, ((pre.length + post.length : Nat) : Int), (pre.length : Int), ())).run = some (.exit 0, z, O, wh, [], .nil, out ++ ks, y)
    | none => ∃ y, (iterT numLoop.t0 m (z, O, wh, [], .nil, out, pre ++ post, ((pre.length + post.length : Nat) : Int), (pre.length : Int), ())).run = some (.ret, z, O, wh, [], mkErr (some (9, 6, O.2.2.2.2.2.2.2.2.2.1)), y)
  | post, pre, out, 0, _, _, hm => absurd hm (Nat.not_lt_zero _)
  | [], pre, out, m + 1, hl, ho, hm => by
    have e : (numLoop.t0 (z, O, wh, [], .nil, out, pre ++ [], ((pre.length + ([] : List ByteArray).length : Nat) : Int), (pre.length : Int), ())).run = some (.exit 0, z, O, wh, [], .nil, out, pre ++ [], ((pre.length + ([] : List ByteArray).length : Nat) : Int), (pre.length : Int), ()) := by
      unfold numLoop.t0
      dsimp only
      rw [tr_no (by simp), tr_ret]
      simp only [List.take_length]
    have e2 := iter_stop (n := m) (by simp) e
    unfold nums
    dsimp only
    rw [e2, List.append_nil, List.append_nil]
    exact ⟨_, rfl⟩
  | x :: post, pre, out, m + 1, hl, ho, hm => by
    simp only [List.length_cons] at hl hm
    have hlen : ((pre.length + (x :: post).length : Nat) : Int) = ((pre.length + post.length + 1 : Nat) : Int) := by simp only [List.length_cons]; omega
    have hW : W ((pre.length : Int) + 1) = ((pre.length + 1 : Nat) : Int) := by rw [W_id (by omega) (by omega)]; omega
    obtain ⟨mats, tris, lits, zones, cells, cam, kind, half, seen, ln, ws, u⟩ := O
    have e8 : (nat_lit 8 : Nat) = 8 := rfl
    have hroom : decide ((out.length + 1) * nat_lit 8 ≤ most) = true := room8 (by omega)
    have hout : ∀ k : Int, List.take (out.length + 1) (List.take out.length out ++ [k]) = out ++ [k] := fun k => by rw [List.take_length, List.take_of_length_le (by simp)]
    unfold nums
    cases hn : num1 (decide ((pre.length : Int) < wh)) x with
    | none =>
      have e : ∃ y, (numLoop.t0 (z, (mats, tris, lits, zones, cells, cam, kind, half, seen, ln, ws, u), wh, [], .nil, out, pre ++ x :: post, ((pre.length + (x :: post).length : Nat) : Int), (pre.length : Int), ())).run = some (.ret, z, (mats, tris, lits, zones, cells, cam, kind, half, seen, ln, ws, u), wh, [], mkErr (some (9, 6, ln)), y) := by
        unfold numLoop.t0
        dsimp only
        rw [tr_yes (by rw [hlen]; exact decide_eq_true (by omega)), tr_opt, lget_mid, Option.bind_some]
        cases hw : decide ((pre.length : Int) < wh) with
        | true =>
          rw [hw] at hn
          obtain ⟨r, h1, h2, _⟩ := Whole_num x
          rw [tr_yes (b := true) rfl, tr_opt, h1, Option.bind_some, tr_yes (by rw [h2 hn]; rfl), tr_opt, New_eq (by decide), Option.bind_some, tr_opt, Wrap_eq rfl (by decide), Option.bind_some, tr_ret]
          simp only [List.take_length]
          exact ⟨_, rfl⟩
        | false =>
          rw [hw] at hn
          obtain ⟨r, h1, h2, _⟩ := Number_num x
          rw [tr_no (b := false) rfl, tr_opt, h1, Option.bind_some, tr_yes (by rw [h2 hn]; rfl), tr_opt, New_eq (by decide), Option.bind_some, tr_opt, Wrap_eq rfl (by decide), Option.bind_some, tr_ret]
          simp only [List.take_length]
          exact ⟨_, rfl⟩
      obtain ⟨y, e⟩ := e
      exact ⟨y, by rw [iter_stop (by simp) e]⟩
    | some k =>
      have e : (numLoop.t0 (z, (mats, tris, lits, zones, cells, cam, kind, half, seen, ln, ws, u), wh, [], .nil, out, pre ++ x :: post, ((pre.length + (x :: post).length : Nat) : Int), (pre.length : Int), ())).run = some (.normal, z, (mats, tris, lits, zones, cells, cam, kind, half, seen, ln, ws, u), wh, [], .nil, out ++ [k], pre ++ x :: post, ((pre.length + (x :: post).length : Nat) : Int), ((pre.length + 1 : Nat) : Int), ()) := by
        unfold numLoop.t0
        dsimp only
        rw [tr_yes (by rw [hlen]; exact decide_eq_true (by omega)), tr_opt, lget_mid, Option.bind_some, hW]
        cases hw : decide ((pre.length : Int) < wh) with
        | true =>
          rw [hw] at hn
          obtain ⟨r, h1, _, h2⟩ := Whole_num x
          rw [tr_yes (b := true) rfl, tr_opt, h1, h2 k hn, Option.bind_some, tr_no (b := !true) rfl, tr_yes hroom, tr_ret, hout]
          simp only [List.take_length]
        | false =>
          rw [hw] at hn
          obtain ⟨r, h1, _, h2⟩ := Number_num x
          rw [tr_no (b := false) rfl, tr_opt, h1, h2 k hn, Option.bind_some, tr_no (b := !true) rfl, tr_yes hroom, tr_ret, hout]
          simp only [List.take_length]
      have ih := num_loop z (mats, tris, lits, zones, cells, cam, kind, half, seen, ln, ws, u) wh post (pre ++ [x]) (out ++ [k]) m (by simp; omega) (by simp; omega) (by omega)
      have e2 : (pre ++ [x]).length = pre.length + 1 := by simp
      have e3 : pre ++ [x] ++ post = pre ++ x :: post := by simp
      have e4 : ((pre.length + 1 + post.length : Nat) : Int) = ((pre.length + (x :: post).length : Nat) : Int) := by simp only [List.length_cons]; omega
      rw [e2, e3, e4] at ih
      cases hns : nums wh (pre.length + 1) post with
      | none =>
        rw [hns] at ih
        obtain ⟨y, ih⟩ := ih
        exact ⟨y, by rw [iter_go e]; exact ih⟩
      | some ks =>
        rw [hns] at ih
        obtain ⟨y, ih⟩ := ih
        refine ⟨y, ?_⟩
        rw [iter_go e, ih]
        simp

theorem Number_ref (x : ByteArray) : ∃ r, ref23_Number x = some r ∧ (kv x = none → r.2 = false) ∧ ∀ k, kv x = some k → r = (k, true) := by
  cases hk : kv x with
  | none =>
    obtain ⟨_, n, e⟩ := kv_none hk
    exact ⟨_, e, fun _ => rfl, fun k h => by simp at h⟩
  | some k => exact ⟨_, (kv_some hk).2, fun h => by simp at h, fun j h => by cases h; rfl⟩

theorem rnum_loop (w0 : ByteArray) (wh : Int) : ∀ (post pre : List ByteArray) (out : List Int) (m : Nat), pre.length + post.length ≤ 6000 → out.length ≤ pre.length → post.length < m →
    match nums wh pre.length post with
    | some ks => ∃ a b c, (iterT ref24_Numbers.t0 m (w0 :: (pre ++ post), wh, [], false, out, ((pre.length + 1 : Nat) : Int), ())).run = some (.exit 0, w0 :: (pre ++ post), wh, a, b, out ++ ks, c)
    | none => ∃ y, (iterT ref24_Numbers.t0 m (w0 :: (pre ++ post), wh, [], false, out, ((pre.length + 1 : Nat) : Int), ())).run = some (.ret, w0 :: (pre ++ post), wh, [], false, y)
  | post, pre, out, 0, _, _, hm => absurd hm (Nat.not_lt_zero _)
  | [], pre, out, m + 1, hl, ho, hm => by
    have e : (ref24_Numbers.t0 (w0 :: (pre ++ []), wh, [], false, out, ((pre.length + 1 : Nat) : Int), ())).run = some (.exit 0, w0 :: (pre ++ []), wh, [], false, out, ((pre.length + 1 : Nat) : Int), ()) := by
      unfold ref24_Numbers.t0
      dsimp only
      rw [tr_no (by simp), tr_ret]
      simp only [List.take_length]
    have e2 := iter_stop (n := m) (by simp) e
    unfold nums
    dsimp only
    rw [e2, List.append_nil, List.append_nil]
    exact ⟨_, _, _, rfl⟩
  | x :: post, pre, out, m + 1, hl, ho, hm => by
    simp only [List.length_cons] at hl hm
    have hW : W (((pre.length + 1 : Nat) : Int) + 1) = ((pre.length + 1 + 1 : Nat) : Int) := by rw [W_id (by omega) (by omega)]; omega
    have hroom : decide ((out.length + 1) * nat_lit 8 ≤ most) = true := room8 (by omega)
    have hout : ∀ k : Int, List.take (out.length + 1) (List.take out.length out ++ [k]) = out ++ [k] := fun k => by rw [List.take_length, List.take_of_length_le (by simp)]
    have hget : lget (w0 :: (pre ++ x :: post)) ((pre.length + 1 : Nat) : Int) = some x := by
      have := lget_mid (w0 :: pre) x post
      simpa using this
    have hcond : decide (((pre.length + 1 : Nat) : Int) ≤ wh) = decide ((pre.length : Int) < wh) := decide_eq_decide.2 (by omega)
    obtain ⟨r, h1, h2, h3⟩ := Number_ref x
    unfold nums num1
    cases hk : kv x with
    | none =>
      dsimp only
      have hr := h2 hk
      have e : ∃ y, (ref24_Numbers.t0 (w0 :: (pre ++ x :: post), wh, [], false, out, ((pre.length + 1 : Nat) : Int), ())).run = some (.ret, w0 :: (pre ++ x :: post), wh, [], false, y) := by
        unfold ref24_Numbers.t0
        dsimp only
        rw [tr_yes (by simp; omega), tr_opt, hget, Option.bind_some, tr_opt, h1, Option.bind_some, hcond]
        cases decide ((pre.length : Int) < wh) with
        | true =>
          rw [tr_yes (b := true) rfl]
          cases (Int.tmod r.1 1024 != 0) with
          | true => rw [tr_yes (b := true) rfl, tr_ret]; exact ⟨_, rfl⟩
          | false => rw [tr_no (b := false) rfl, tr_yes (by rw [hr]; rfl), tr_ret]; exact ⟨_, rfl⟩
        | false => rw [tr_no (b := false) rfl, tr_yes (by rw [hr]; rfl), tr_ret]; exact ⟨_, rfl⟩
      obtain ⟨y, e⟩ := e
      exact ⟨y, by rw [iter_stop (by simp) e]⟩
    | some k =>
      have hr := h3 k hk
      subst hr
      dsimp only
      have hin := kv_in hk
      have go : ∀ v : Int, (ref24_Numbers.t0 (w0 :: (pre ++ x :: post), wh, [], false, out, ((pre.length + 1 : Nat) : Int), ())).run = some (.normal, w0 :: (pre ++ x :: post), wh, [], false, out ++ [v], ((pre.length + 1 + 1 : Nat) : Int), ()) →
          (match (match nums wh (pre.length + 1) post with
            | none => none
            | some ks => some (v :: ks)) with
          | some ks => ∃ a b c, (iterT ref24_Numbers.t0 (m + 1) (w0 :: (pre ++ x :: post), wh, [], false, out, ((pre.length + 1 : Nat) : Int), ())).run = some (.exit 0, w0 :: (pre ++ x :: post), wh, a, b, out ++ ks, c)
          | none => ∃ y, (iterT ref24_Numbers.t0 (m + 1) (w0 :: (pre ++ x :: post), wh, [], false, out, ((pre.length + 1 : Nat) : Int), ())).run = some (.ret, w0 :: (pre ++ x :: post), wh, [], false, y)) := fun v e => by
        have ih := rnum_loop w0 wh post (pre ++ [x]) (out ++ [v]) m (by simp; omega) (by simp; omega) (by omega)
        have e2 : (pre ++ [x]).length = pre.length + 1 := by simp
        have e3 : pre ++ [x] ++ post = pre ++ x :: post := by simp
        rw [e2, e3] at ih
        cases hns : nums wh (pre.length + 1) post with
        | none =>
          rw [hns] at ih
          obtain ⟨y, ih⟩ := ih
          exact ⟨y, by rw [iter_go e]; exact ih⟩
        | some ks =>
          rw [hns] at ih
          obtain ⟨a, b, c, ih⟩ := ih
          refine ⟨a, b, c, ?_⟩
          rw [iter_go e, ih]
          simp
      by_cases hw : decide ((pre.length : Int) < wh) = true
      · rw [if_pos hw]
        by_cases hm2 : k.tmod 1024 = 0
        · rw [if_pos hm2]
          refine go _ ?_
          unfold ref24_Numbers.t0
          dsimp only
          rw [tr_yes (by simp; omega), tr_opt, hget, Option.bind_some, tr_opt, h1, Option.bind_some, hcond, hW]
          dsimp only
          rw [hw, tr_yes (b := true) rfl, tr_no (by simp [hm2]), tr_no (b := !true) rfl, tr_yes (b := true) rfl, tr_yes hroom, tr_ret, W_tdiv hin, hout]
          simp only [List.take_length]
        · rw [if_neg hm2]
          have e : ∃ y, (ref24_Numbers.t0 (w0 :: (pre ++ x :: post), wh, [], false, out, ((pre.length + 1 : Nat) : Int), ())).run = some (.ret, w0 :: (pre ++ x :: post), wh, [], false, y) := by
            unfold ref24_Numbers.t0
            dsimp only
            rw [tr_yes (by simp; omega), tr_opt, hget, Option.bind_some, tr_opt, h1, Option.bind_some, hcond]
            dsimp only
            rw [hw, tr_yes (b := true) rfl, tr_yes (by simpa using hm2), tr_ret]
            exact ⟨_, rfl⟩
          obtain ⟨y, e⟩ := e
          exact ⟨y, by rw [iter_stop (by simp) e]⟩
      · rw [if_neg hw]
        have hw : decide ((pre.length : Int) < wh) = false := by simpa using hw
        refine go _ ?_
        unfold ref24_Numbers.t0
        dsimp only
        rw [tr_yes (by simp; omega), tr_opt, hget, Option.bind_some, tr_opt, h1, Option.bind_some, hcond, hW]
        dsimp only
        rw [hw, tr_no (b := false) rfl, tr_no (b := !true) rfl, tr_no (b := false) rfl, tr_yes hroom, tr_ret, hout]
        simp only [List.take_length]

theorem Numbers_ref (w0 : ByteArray) (l : List ByteArray) (wh : Int) (h : l.length ≤ 6000) : ∃ r, ref24_Numbers (w0 :: l, wh) = some r ∧ (nums wh 0 l = none → r.2 = false) ∧ ∀ ks, nums wh 0 l = some ks → r = (ks, true) := by
  have key := rnum_loop w0 wh l [] [] rounds (by simp; omega) (by simp) (rounds_gt (by omega))
  unfold ref24_Numbers ref24_Numbers.t ref24_Numbers.l0
  cases hn : nums wh 0 l with
  | none =>
    rw [show ([] : List ByteArray).length = 0 from rfl, hn] at key
    obtain ⟨y, key⟩ := key
    have key : (iterT ref24_Numbers.t0 rounds (w0 :: l, wh, [], false, [], (1 : Int), ())).run = _ := key
    refine ⟨([], false), ?_, fun _ => rfl, fun ks h => by simp at h⟩
    rw [tr_opt, key]; rfl
  | some ks =>
    rw [show ([] : List ByteArray).length = 0 from rfl, hn] at key
    obtain ⟨a, b, c, key⟩ := key
    have key : (iterT ref24_Numbers.t0 rounds (w0 :: l, wh, [], false, [], (1 : Int), ())).run = _ := key
    refine ⟨(ks, true), ?_, fun h => by simp at h, fun j h => by cases h; rfl⟩
    rw [tr_opt, key, Option.bind_some]
    dsimp only
    rw [tr_yes (b := exEq (Ex.exit 0) (Ex.exit 0)) rfl, tr_ret, List.take_length, List.nil_append]

theorem nums_len (wh : Int) : ∀ (l : List ByteArray) (i : Nat) (ks : List Int), nums wh i l = some ks → ks.length = l.length
  | [], _, ks, h => by unfold nums at h; cases h; rfl
  | x :: l, i, ks, h => by
    unfold nums at h
    split at h
    · cases h
    · split at h
      · cases h
      · rename_i js hj
        cases h
        simp [nums_len wh l (i + 1) js hj]
end Go.Proofs.Pen

namespace Go.Proofs.Pen
open Go Go.Proofs

abbrev cMat : ByteArray := ByteArray.mk #[109, 97, 116]
abbrev cMatt : ByteArray := ByteArray.mk #[109, 97, 116, 116]
abbrev cTri : ByteArray := ByteArray.mk #[116, 114, 105]
abbrev cLight : ByteArray := ByteArray.mk #[108, 105, 103, 104, 116]
abbrev cSky : ByteArray := ByteArray.mk #[115, 107, 121]
abbrev cCell : ByteArray := ByteArray.mk #[99, 101, 108, 108]
abbrev cCam : ByteArray := ByteArray.mk #[99, 97, 109, 101, 114, 97]
abbrev cPin : ByteArray := ByteArray.mk #[112, 105, 110, 104, 111, 108, 101]
abbrev cFil : ByteArray := ByteArray.mk #[102, 105, 108, 116, 101, 114]

theorem code_mat (s : ScT) (seen : List (ByteArray × Bool)) (n0 : Int) (w0 : List ByteArray) (L : List (Int × List ByteArray)) (i : Nat) (hi : i < L.length) (hn : L.length ≤ 6001) (num : Int) (args : List ByteArray) (hg : L[i] = (num, cMat :: args)) (a0 a1 a2 a3 a4 a5 a6 : Int) (hk : nums 0 0 args = some [a0, a1, a2, a3, a4, a5, a6]) (hs : s.1.length ≤ 6001) :
    (parse_Parse.t0 (ZS, .nil, (s.1, s.2.1, s.2.2.1, s.2.2.2.1, s.2.2.2.2.1, s.2.2.2.2.2.1, s.2.2.2.2.2.2.1, s.2.2.2.2.2.2.2, seen, n0, w0, ()), L, (L.length : Int), (i : Int), ())).run =
      some (.normal, ZS, .nil, (s.1 ++ [((a0, a1, a2), (a3, a4, a5), a6)], s.2.1, s.2.2.1, s.2.2.2.1, s.2.2.2.2.1, s.2.2.2.2.2.1, s.2.2.2.2.2.2.1, s.2.2.2.2.2.2.2, seen, num, cMat :: args, ()), L, (L.length : Int), ((i + 1 : Nat) : Int), ()) := by
  have ha : args.length = 7 := (nums_len _ _ _ _ hk).symm
  unfold parse_Parse.t0
  dsimp only
  have hW : W ((i : Int) + 1) = ((i + 1 : Nat) : Int) := by rw [W_id (by omega) (by omega)]; omega
  have hL : lget L (i : Int) = some (num, cMat :: args) := by rw [lget_nat L hi, hg]
  have h0 : lget (cMat :: args) 0 = some cMat := rfl
  have ht : parse_takes cMat = some (7, 0, true) := by kernel_rfl
  rw [tr_yes (decide_eq_true (by omega)), tr_opt, hL, Option.bind_some, hW, tr_opt, h0, Option.bind_some, tr_opt, ht, Option.bind_some]
  dsimp only
  rw [tr_no (b := !true) rfl]
  have hlen : (cMat :: args).length = 8 := by simp [ha]
  have hdrop : List.take ((((cMat :: args).length : Nat) : Int).toNat - Int.toNat 1) (List.drop (Int.toNat 1) (cMat :: args)) = args := by
    rw [Int.toNat_natCast, hlen]
    show List.take 7 args = args
    exact List.take_of_length_le (by omega)
  rw [tr_yes (by rw [hlen]; rfl), hdrop, tr_no (by rw [ha]; rfl)]
  simp only [List.take_length]
  have key := num_loop ZS (s.1, s.2.1, s.2.2.1, s.2.2.2.1, s.2.2.2.2.1, s.2.2.2.2.2.1, s.2.2.2.2.2.2.1, s.2.2.2.2.2.2.2, seen, num, cMat :: args, ()) 0 args [] [] rounds (by simp; omega) (by simp) (rounds_gt (by omega))
  rw [show ([] : List ByteArray).length = 0 from rfl, hk] at key
  obtain ⟨y, key⟩ := key
  simp only [Nat.zero_add, List.nil_append] at key
  have key : numLoop.l0 (ZS, (s.1, s.2.1, s.2.2.1, s.2.2.2.1, s.2.2.2.2.1, s.2.2.2.2.2.1, s.2.2.2.2.2.2.1, s.2.2.2.2.2.2.2, seen, num, cMat :: args, ()), 0, [], .nil, [], args, (args.length : Int), 0, ()) = _ := key
  rw [tr_opt, key, Option.bind_some]
  dsimp only
  rw [tr_yes (b := exEq (Ex.exit 0) (Ex.exit 0)) rfl, tr_no (b := false) rfl, tr_opt, h0, Option.bind_some]
  rw [tr_no (b := ByteArray.toList cMat == ByteArray.toList cMatt) (by kernel_rfl), tr_yes (b := ByteArray.toList cMat == ByteArray.toList cMat) (by kernel_rfl)]
  have hroom : decide ((s.1.length + 1) * 56 ≤ most) = true := decide_eq_true (room (by omega) (by omega))
  simp only [hroom, take_snoc]
  rfl
theorem code_matt (s : ScT) (seen : List (ByteArray × Bool)) (n0 : Int) (w0 : List ByteArray) (L : List (Int × List ByteArray)) (i : Nat) (hi : i < L.length) (hn : L.length ≤ 6001) (num : Int) (args : List ByteArray) (hg : L[i] = (num, cMatt :: args)) (a0 a1 a2 : Int) (hk : nums 0 0 args = some [a0, a1, a2]) (hs : s.1.length ≤ 6001) :
    (parse_Parse.t0 (ZS, .nil, (s.1, s.2.1, s.2.2.1, s.2.2.2.1, s.2.2.2.2.1, s.2.2.2.2.2.1, s.2.2.2.2.2.2.1, s.2.2.2.2.2.2.2, seen, n0, w0, ()), L, (L.length : Int), (i : Int), ())).run =
      some (.normal, ZS, .nil, (s.1 ++ [((a0, a1, a2), (0, 0, 0), 1024)], s.2.1, s.2.2.1, s.2.2.2.1, s.2.2.2.2.1, s.2.2.2.2.2.1, s.2.2.2.2.2.2.1, s.2.2.2.2.2.2.2, seen, num, cMatt :: args, ()), L, (L.length : Int), ((i + 1 : Nat) : Int), ()) := by
  have ha : args.length = 3 := (nums_len _ _ _ _ hk).symm
  unfold parse_Parse.t0
  dsimp only
  have hW : W ((i : Int) + 1) = ((i + 1 : Nat) : Int) := by rw [W_id (by omega) (by omega)]; omega
  have hL : lget L (i : Int) = some (num, cMatt :: args) := by rw [lget_nat L hi, hg]
  have h0 : lget (cMatt :: args) 0 = some cMatt := rfl
  have ht : parse_takes cMatt = some (3, 0, true) := by kernel_rfl
  rw [tr_yes (decide_eq_true (by omega)), tr_opt, hL, Option.bind_some, hW, tr_opt, h0, Option.bind_some, tr_opt, ht, Option.bind_some]
  dsimp only
  rw [tr_no (b := !true) rfl]
  have hlen : (cMatt :: args).length = 4 := by simp [ha]
  have hdrop : List.take ((((cMatt :: args).length : Nat) : Int).toNat - Int.toNat 1) (List.drop (Int.toNat 1) (cMatt :: args)) = args := by
    rw [Int.toNat_natCast, hlen]
    show List.take 3 args = args
    exact List.take_of_length_le (by omega)
  rw [tr_yes (by rw [hlen]; rfl), hdrop, tr_no (by rw [ha]; rfl)]
  simp only [List.take_length]
  have key := num_loop ZS (s.1, s.2.1, s.2.2.1, s.2.2.2.1, s.2.2.2.2.1, s.2.2.2.2.2.1, s.2.2.2.2.2.2.1, s.2.2.2.2.2.2.2, seen, num, cMatt :: args, ()) 0 args [] [] rounds (by simp; omega) (by simp) (rounds_gt (by omega))
  rw [show ([] : List ByteArray).length = 0 from rfl, hk] at key
  obtain ⟨y, key⟩ := key
  simp only [Nat.zero_add, List.nil_append] at key
  have key : numLoop.l0 (ZS, (s.1, s.2.1, s.2.2.1, s.2.2.2.1, s.2.2.2.2.1, s.2.2.2.2.2.1, s.2.2.2.2.2.2.1, s.2.2.2.2.2.2.2, seen, num, cMatt :: args, ()), 0, [], .nil, [], args, (args.length : Int), 0, ()) = _ := key
  rw [tr_opt, key, Option.bind_some]
  dsimp only
  rw [tr_yes (b := exEq (Ex.exit 0) (Ex.exit 0)) rfl, tr_no (b := false) rfl, tr_opt, h0, Option.bind_some]
  rw [tr_yes (b := ByteArray.toList cMatt == ByteArray.toList cMatt) (by kernel_rfl)]
  have hroom : decide ((s.1.length + 1) * 56 ≤ most) = true := decide_eq_true (room (by omega) (by omega))
  simp only [hroom, take_snoc]
  rfl
theorem code_tri (s : ScT) (seen : List (ByteArray × Bool)) (n0 : Int) (w0 : List ByteArray) (L : List (Int × List ByteArray)) (i : Nat) (hi : i < L.length) (hn : L.length ≤ 6001) (num : Int) (args : List ByteArray) (hg : L[i] = (num, cTri :: args)) (a0 a1 a2 a3 a4 a5 a6 a7 a8 a9 : Int) (hk : nums 1 0 args = some [a0, a1, a2, a3, a4, a5, a6, a7, a8, a9]) (hs : s.2.1.length ≤ 6001) :
    (parse_Parse.t0 (ZS, .nil, (s.1, s.2.1, s.2.2.1, s.2.2.2.1, s.2.2.2.2.1, s.2.2.2.2.2.1, s.2.2.2.2.2.2.1, s.2.2.2.2.2.2.2, seen, n0, w0, ()), L, (L.length : Int), (i : Int), ())).run =
      some (.normal, ZS, .nil, (s.1, s.2.1 ++ [((a1, a2, a3), (a4, a5, a6), (a7, a8, a9), a0)], s.2.2.1, s.2.2.2.1, s.2.2.2.2.1, s.2.2.2.2.2.1, s.2.2.2.2.2.2.1, s.2.2.2.2.2.2.2, seen, num, cTri :: args, ()), L, (L.length : Int), ((i + 1 : Nat) : Int), ()) := by
  have ha : args.length = 10 := (nums_len _ _ _ _ hk).symm
  unfold parse_Parse.t0
  dsimp only
  have hW : W ((i : Int) + 1) = ((i + 1 : Nat) : Int) := by rw [W_id (by omega) (by omega)]; omega
  have hL : lget L (i : Int) = some (num, cTri :: args) := by rw [lget_nat L hi, hg]
  have h0 : lget (cTri :: args) 0 = some cTri := rfl
  have ht : parse_takes cTri = some (10, 1, true) := by kernel_rfl
  rw [tr_yes (decide_eq_true (by omega)), tr_opt, hL, Option.bind_some, hW, tr_opt, h0, Option.bind_some, tr_opt, ht, Option.bind_some]
  dsimp only
  rw [tr_no (b := !true) rfl]
  have hlen : (cTri :: args).length = 11 := by simp [ha]
  have hdrop : List.take ((((cTri :: args).length : Nat) : Int).toNat - Int.toNat 1) (List.drop (Int.toNat 1) (cTri :: args)) = args := by
    rw [Int.toNat_natCast, hlen]
    show List.take 10 args = args
    exact List.take_of_length_le (by omega)
  rw [tr_yes (by rw [hlen]; rfl), hdrop, tr_no (by rw [ha]; rfl)]
  simp only [List.take_length]
  have key := num_loop ZS (s.1, s.2.1, s.2.2.1, s.2.2.2.1, s.2.2.2.2.1, s.2.2.2.2.2.1, s.2.2.2.2.2.2.1, s.2.2.2.2.2.2.2, seen, num, cTri :: args, ()) 1 args [] [] rounds (by simp; omega) (by simp) (rounds_gt (by omega))
  rw [show ([] : List ByteArray).length = 0 from rfl, hk] at key
  obtain ⟨y, key⟩ := key
  simp only [Nat.zero_add, List.nil_append] at key
  have key : numLoop.l0 (ZS, (s.1, s.2.1, s.2.2.1, s.2.2.2.1, s.2.2.2.2.1, s.2.2.2.2.2.1, s.2.2.2.2.2.2.1, s.2.2.2.2.2.2.2, seen, num, cTri :: args, ()), 1, [], .nil, [], args, (args.length : Int), 0, ()) = _ := key
  rw [tr_opt, key, Option.bind_some]
  dsimp only
  rw [tr_yes (b := exEq (Ex.exit 0) (Ex.exit 0)) rfl, tr_no (b := false) rfl, tr_opt, h0, Option.bind_some]
  rw [tr_no (b := ByteArray.toList cTri == ByteArray.toList cMatt) (by kernel_rfl), tr_no (b := ByteArray.toList cTri == ByteArray.toList cMat) (by kernel_rfl), tr_yes (b := ByteArray.toList cTri == ByteArray.toList cTri) (by kernel_rfl)]
  have hroom : decide ((s.2.1.length + 1) * 80 ≤ most) = true := decide_eq_true (room (by omega) (by omega))
  simp only [hroom, take_snoc]
  rfl
theorem code_light (s : ScT) (seen : List (ByteArray × Bool)) (n0 : Int) (w0 : List ByteArray) (L : List (Int × List ByteArray)) (i : Nat) (hi : i < L.length) (hn : L.length ≤ 6001) (num : Int) (args : List ByteArray) (hg : L[i] = (num, cLight :: args)) (a0 a1 a2 a3 : Int) (hk : nums 1 0 args = some [a0, a1, a2, a3]) (hs : s.2.2.1.length ≤ 6001) :
    (parse_Parse.t0 (ZS, .nil, (s.1, s.2.1, s.2.2.1, s.2.2.2.1, s.2.2.2.2.1, s.2.2.2.2.2.1, s.2.2.2.2.2.2.1, s.2.2.2.2.2.2.2, seen, n0, w0, ()), L, (L.length : Int), (i : Int), ())).run =
      some (.normal, ZS, .nil, (s.1, s.2.1, s.2.2.1 ++ [(a0, (a1, a2, a3))], s.2.2.2.1, s.2.2.2.2.1, s.2.2.2.2.2.1, s.2.2.2.2.2.2.1, s.2.2.2.2.2.2.2, seen, num, cLight :: args, ()), L, (L.length : Int), ((i + 1 : Nat) : Int), ()) := by
  have ha : args.length = 4 := (nums_len _ _ _ _ hk).symm
  unfold parse_Parse.t0
  dsimp only
  have hW : W ((i : Int) + 1) = ((i + 1 : Nat) : Int) := by rw [W_id (by omega) (by omega)]; omega
  have hL : lget L (i : Int) = some (num, cLight :: args) := by rw [lget_nat L hi, hg]
  have h0 : lget (cLight :: args) 0 = some cLight := rfl
  have ht : parse_takes cLight = some (4, 1, true) := by kernel_rfl
  rw [tr_yes (decide_eq_true (by omega)), tr_opt, hL, Option.bind_some, hW, tr_opt, h0, Option.bind_some, tr_opt, ht, Option.bind_some]
  dsimp only
  rw [tr_no (b := !true) rfl]
  have hlen : (cLight :: args).length = 5 := by simp [ha]
  have hdrop : List.take ((((cLight :: args).length : Nat) : Int).toNat - Int.toNat 1) (List.drop (Int.toNat 1) (cLight :: args)) = args := by
    rw [Int.toNat_natCast, hlen]
    show List.take 4 args = args
    exact List.take_of_length_le (by omega)
  rw [tr_yes (by rw [hlen]; rfl), hdrop, tr_no (by rw [ha]; rfl)]
  simp only [List.take_length]
  have key := num_loop ZS (s.1, s.2.1, s.2.2.1, s.2.2.2.1, s.2.2.2.2.1, s.2.2.2.2.2.1, s.2.2.2.2.2.2.1, s.2.2.2.2.2.2.2, seen, num, cLight :: args, ()) 1 args [] [] rounds (by simp; omega) (by simp) (rounds_gt (by omega))
  rw [show ([] : List ByteArray).length = 0 from rfl, hk] at key
  obtain ⟨y, key⟩ := key
  simp only [Nat.zero_add, List.nil_append] at key
  have key : numLoop.l0 (ZS, (s.1, s.2.1, s.2.2.1, s.2.2.2.1, s.2.2.2.2.1, s.2.2.2.2.2.1, s.2.2.2.2.2.2.1, s.2.2.2.2.2.2.2, seen, num, cLight :: args, ()), 1, [], .nil, [], args, (args.length : Int), 0, ()) = _ := key
  rw [tr_opt, key, Option.bind_some]
  dsimp only
  rw [tr_yes (b := exEq (Ex.exit 0) (Ex.exit 0)) rfl, tr_no (b := false) rfl, tr_opt, h0, Option.bind_some]
  rw [tr_no (b := ByteArray.toList cLight == ByteArray.toList cMatt) (by kernel_rfl), tr_no (b := ByteArray.toList cLight == ByteArray.toList cMat) (by kernel_rfl), tr_no (b := ByteArray.toList cLight == ByteArray.toList cTri) (by kernel_rfl), tr_yes (b := ByteArray.toList cLight == ByteArray.toList cLight) (by kernel_rfl)]
  have hroom : decide ((s.2.2.1.length + 1) * 32 ≤ most) = true := decide_eq_true (room (by omega) (by omega))
  simp only [hroom, take_snoc]
  rfl
theorem code_cell (s : ScT) (seen : List (ByteArray × Bool)) (n0 : Int) (w0 : List ByteArray) (L : List (Int × List ByteArray)) (i : Nat) (hi : i < L.length) (hn : L.length ≤ 6001) (num : Int) (args : List ByteArray) (hg : L[i] = (num, cCell :: args)) (a0 a1 a2 : Int) (hk : nums 0 0 args = some [a0, a1, a2]) (hs : s.2.2.2.2.1.length ≤ 6001) :
    (parse_Parse.t0 (ZS, .nil, (s.1, s.2.1, s.2.2.1, s.2.2.2.1, s.2.2.2.2.1, s.2.2.2.2.2.1, s.2.2.2.2.2.2.1, s.2.2.2.2.2.2.2, seen, n0, w0, ()), L, (L.length : Int), (i : Int), ())).run =
      some (.normal, ZS, .nil, (s.1, s.2.1, s.2.2.1, s.2.2.2.1, s.2.2.2.2.1 ++ [(a0, a1, a2)], s.2.2.2.2.2.1, s.2.2.2.2.2.2.1, s.2.2.2.2.2.2.2, seen, num, cCell :: args, ()), L, (L.length : Int), ((i + 1 : Nat) : Int), ()) := by
  have ha : args.length = 3 := (nums_len _ _ _ _ hk).symm
  unfold parse_Parse.t0
  dsimp only
  have hW : W ((i : Int) + 1) = ((i + 1 : Nat) : Int) := by rw [W_id (by omega) (by omega)]; omega
  have hL : lget L (i : Int) = some (num, cCell :: args) := by rw [lget_nat L hi, hg]
  have h0 : lget (cCell :: args) 0 = some cCell := rfl
  have ht : parse_takes cCell = some (3, 0, true) := by kernel_rfl
  rw [tr_yes (decide_eq_true (by omega)), tr_opt, hL, Option.bind_some, hW, tr_opt, h0, Option.bind_some, tr_opt, ht, Option.bind_some]
  dsimp only
  rw [tr_no (b := !true) rfl]
  have hlen : (cCell :: args).length = 4 := by simp [ha]
  have hdrop : List.take ((((cCell :: args).length : Nat) : Int).toNat - Int.toNat 1) (List.drop (Int.toNat 1) (cCell :: args)) = args := by
    rw [Int.toNat_natCast, hlen]
    show List.take 3 args = args
    exact List.take_of_length_le (by omega)
  rw [tr_yes (by rw [hlen]; rfl), hdrop, tr_no (by rw [ha]; rfl)]
  simp only [List.take_length]
  have key := num_loop ZS (s.1, s.2.1, s.2.2.1, s.2.2.2.1, s.2.2.2.2.1, s.2.2.2.2.2.1, s.2.2.2.2.2.2.1, s.2.2.2.2.2.2.2, seen, num, cCell :: args, ()) 0 args [] [] rounds (by simp; omega) (by simp) (rounds_gt (by omega))
  rw [show ([] : List ByteArray).length = 0 from rfl, hk] at key
  obtain ⟨y, key⟩ := key
  simp only [Nat.zero_add, List.nil_append] at key
  have key : numLoop.l0 (ZS, (s.1, s.2.1, s.2.2.1, s.2.2.2.1, s.2.2.2.2.1, s.2.2.2.2.2.1, s.2.2.2.2.2.2.1, s.2.2.2.2.2.2.2, seen, num, cCell :: args, ()), 0, [], .nil, [], args, (args.length : Int), 0, ()) = _ := key
  rw [tr_opt, key, Option.bind_some]
  dsimp only
  rw [tr_yes (b := exEq (Ex.exit 0) (Ex.exit 0)) rfl, tr_no (b := false) rfl, tr_opt, h0, Option.bind_some]
  rw [tr_no (b := ByteArray.toList cCell == ByteArray.toList cMatt) (by kernel_rfl), tr_no (b := ByteArray.toList cCell == ByteArray.toList cMat) (by kernel_rfl), tr_no (b := ByteArray.toList cCell == ByteArray.toList cTri) (by kernel_rfl), tr_no (b := ByteArray.toList cCell == ByteArray.toList cLight) (by kernel_rfl), tr_yes (b := ByteArray.toList cCell == ByteArray.toList cCell) (by kernel_rfl)]
  have hroom : decide ((s.2.2.2.2.1.length + 1) * 24 ≤ most) = true := decide_eq_true (room (by omega) (by omega))
  simp only [hroom, take_snoc]
  rfl
theorem code_sky (s : ScT) (seen : List (ByteArray × Bool)) (n0 : Int) (w0 : List ByteArray) (L : List (Int × List ByteArray)) (i : Nat) (hi : i < L.length) (hn : L.length ≤ 6001) (num : Int) (args : List ByteArray) (hg : L[i] = (num, cSky :: args)) (a0 : Int) (hk : nums 1 0 args = some [a0]) (hse : (mget seen cSky).getD false = false) :
    (parse_Parse.t0 (ZS, .nil, (s.1, s.2.1, s.2.2.1, s.2.2.2.1, s.2.2.2.2.1, s.2.2.2.2.2.1, s.2.2.2.2.2.2.1, s.2.2.2.2.2.2.2, seen, n0, w0, ()), L, (L.length : Int), (i : Int), ())).run =
      some (.normal, ZS, .nil, (s.1, s.2.1, s.2.2.1, a0, s.2.2.2.2.1, s.2.2.2.2.2.1, s.2.2.2.2.2.2.1, s.2.2.2.2.2.2.2, mset seen cSky true, num, cSky :: args, ()), L, (L.length : Int), ((i + 1 : Nat) : Int), ()) := by
  have ha : args.length = 1 := (nums_len _ _ _ _ hk).symm
  unfold parse_Parse.t0
  dsimp only
  have hW : W ((i : Int) + 1) = ((i + 1 : Nat) : Int) := by rw [W_id (by omega) (by omega)]; omega
  have hL : lget L (i : Int) = some (num, cSky :: args) := by rw [lget_nat L hi, hg]
  have h0 : lget (cSky :: args) 0 = some cSky := rfl
  have ht : parse_takes cSky = some (1, 1, true) := by kernel_rfl
  rw [tr_yes (decide_eq_true (by omega)), tr_opt, hL, Option.bind_some, hW, tr_opt, h0, Option.bind_some, tr_opt, ht, Option.bind_some]
  dsimp only
  rw [tr_no (b := !true) rfl]
  have hlen : (cSky :: args).length = 2 := by simp [ha]
  have hdrop : List.take ((((cSky :: args).length : Nat) : Int).toNat - Int.toNat 1) (List.drop (Int.toNat 1) (cSky :: args)) = args := by
    rw [Int.toNat_natCast, hlen]
    show List.take 1 args = args
    exact List.take_of_length_le (by omega)
  rw [tr_yes (by rw [hlen]; rfl), hdrop, tr_no (by rw [ha]; rfl)]
  simp only [List.take_length]
  have key := num_loop ZS (s.1, s.2.1, s.2.2.1, s.2.2.2.1, s.2.2.2.2.1, s.2.2.2.2.2.1, s.2.2.2.2.2.2.1, s.2.2.2.2.2.2.2, seen, num, cSky :: args, ()) 1 args [] [] rounds (by simp; omega) (by simp) (rounds_gt (by omega))
  rw [show ([] : List ByteArray).length = 0 from rfl, hk] at key
  obtain ⟨y, key⟩ := key
  simp only [Nat.zero_add, List.nil_append] at key
  have key : numLoop.l0 (ZS, (s.1, s.2.1, s.2.2.1, s.2.2.2.1, s.2.2.2.2.1, s.2.2.2.2.2.1, s.2.2.2.2.2.2.1, s.2.2.2.2.2.2.2, seen, num, cSky :: args, ()), 1, [], .nil, [], args, (args.length : Int), 0, ()) = _ := key
  rw [tr_opt, key, Option.bind_some]
  dsimp only
  rw [tr_yes (b := exEq (Ex.exit 0) (Ex.exit 0)) rfl, tr_no (b := false) rfl, tr_opt, h0, Option.bind_some]
  rw [tr_no (b := ByteArray.toList cSky == ByteArray.toList cMatt) (by kernel_rfl), tr_no (b := ByteArray.toList cSky == ByteArray.toList cMat) (by kernel_rfl), tr_no (b := ByteArray.toList cSky == ByteArray.toList cTri) (by kernel_rfl), tr_no (b := ByteArray.toList cSky == ByteArray.toList cLight) (by kernel_rfl), tr_no (b := ByteArray.toList cSky == ByteArray.toList cCell) (by kernel_rfl), tr_yes (b := ByteArray.toList cSky == ByteArray.toList cSky) (by kernel_rfl)]
  simp only [hse]
  rfl
theorem code_sky_dup (s : ScT) (seen : List (ByteArray × Bool)) (n0 : Int) (w0 : List ByteArray) (L : List (Int × List ByteArray)) (i : Nat) (hi : i < L.length) (hn : L.length ≤ 6001) (num : Int) (args : List ByteArray) (hg : L[i] = (num, cSky :: args)) (a0 : Int) (hk : nums 1 0 args = some [a0]) (hse : (mget seen cSky).getD false = true) :
    (parse_Parse.t0 (ZS, .nil, (s.1, s.2.1, s.2.2.1, s.2.2.2.1, s.2.2.2.2.1, s.2.2.2.2.2.1, s.2.2.2.2.2.2.1, s.2.2.2.2.2.2.2, seen, n0, w0, ()), L, (L.length : Int), (i : Int), ())).run =
      some (.ret, ZS, mkErr (some (9, 2, num)), (s.1, s.2.1, s.2.2.1, a0, s.2.2.2.2.1, s.2.2.2.2.2.1, s.2.2.2.2.2.2.1, s.2.2.2.2.2.2.2, seen, num, cSky :: args, ()), L, (L.length : Int), (i : Int), ()) := by
  have ha : args.length = 1 := (nums_len _ _ _ _ hk).symm
  unfold parse_Parse.t0
  dsimp only
  have hW : W ((i : Int) + 1) = ((i + 1 : Nat) : Int) := by rw [W_id (by omega) (by omega)]; omega
  have hL : lget L (i : Int) = some (num, cSky :: args) := by rw [lget_nat L hi, hg]
  have h0 : lget (cSky :: args) 0 = some cSky := rfl
  have ht : parse_takes cSky = some (1, 1, true) := by kernel_rfl
  rw [tr_yes (decide_eq_true (by omega)), tr_opt, hL, Option.bind_some, hW, tr_opt, h0, Option.bind_some, tr_opt, ht, Option.bind_some]
  dsimp only
  rw [tr_no (b := !true) rfl]
  have hlen : (cSky :: args).length = 2 := by simp [ha]
  have hdrop : List.take ((((cSky :: args).length : Nat) : Int).toNat - Int.toNat 1) (List.drop (Int.toNat 1) (cSky :: args)) = args := by
    rw [Int.toNat_natCast, hlen]
    show List.take 1 args = args
    exact List.take_of_length_le (by omega)
  rw [tr_yes (by rw [hlen]; rfl), hdrop, tr_no (by rw [ha]; rfl)]
  simp only [List.take_length]
  have key := num_loop ZS (s.1, s.2.1, s.2.2.1, s.2.2.2.1, s.2.2.2.2.1, s.2.2.2.2.2.1, s.2.2.2.2.2.2.1, s.2.2.2.2.2.2.2, seen, num, cSky :: args, ()) 1 args [] [] rounds (by simp; omega) (by simp) (rounds_gt (by omega))
  rw [show ([] : List ByteArray).length = 0 from rfl, hk] at key
  obtain ⟨y, key⟩ := key
  simp only [Nat.zero_add, List.nil_append] at key
  have key : numLoop.l0 (ZS, (s.1, s.2.1, s.2.2.1, s.2.2.2.1, s.2.2.2.2.1, s.2.2.2.2.2.1, s.2.2.2.2.2.2.1, s.2.2.2.2.2.2.2, seen, num, cSky :: args, ()), 1, [], .nil, [], args, (args.length : Int), 0, ()) = _ := key
  rw [tr_opt, key, Option.bind_some]
  dsimp only
  rw [tr_yes (b := exEq (Ex.exit 0) (Ex.exit 0)) rfl, tr_no (b := false) rfl, tr_opt, h0, Option.bind_some]
  rw [tr_no (b := ByteArray.toList cSky == ByteArray.toList cMatt) (by kernel_rfl), tr_no (b := ByteArray.toList cSky == ByteArray.toList cMat) (by kernel_rfl), tr_no (b := ByteArray.toList cSky == ByteArray.toList cTri) (by kernel_rfl), tr_no (b := ByteArray.toList cSky == ByteArray.toList cLight) (by kernel_rfl), tr_no (b := ByteArray.toList cSky == ByteArray.toList cCell) (by kernel_rfl), tr_yes (b := ByteArray.toList cSky == ByteArray.toList cSky) (by kernel_rfl)]
  simp only [hse]
  rfl
theorem code_filter (s : ScT) (seen : List (ByteArray × Bool)) (n0 : Int) (w0 : List ByteArray) (L : List (Int × List ByteArray)) (i : Nat) (hi : i < L.length) (hn : L.length ≤ 6001) (num : Int) (args : List ByteArray) (hg : L[i] = (num, cFil :: args)) (a0 a1 : Int) (hk : nums 1 0 args = some [a0, a1]) (hse : (mget seen cFil).getD false = false) :
    (parse_Parse.t0 (ZS, .nil, (s.1, s.2.1, s.2.2.1, s.2.2.2.1, s.2.2.2.2.1, s.2.2.2.2.2.1, s.2.2.2.2.2.2.1, s.2.2.2.2.2.2.2, seen, n0, w0, ()), L, (L.length : Int), (i : Int), ())).run =
      some (.normal, ZS, .nil, (s.1, s.2.1, s.2.2.1, s.2.2.2.1, s.2.2.2.2.1, s.2.2.2.2.2.1, a0, a1, mset seen cFil true, num, cFil :: args, ()), L, (L.length : Int), ((i + 1 : Nat) : Int), ()) := by
  have ha : args.length = 2 := (nums_len _ _ _ _ hk).symm
  unfold parse_Parse.t0
  dsimp only
  have hW : W ((i : Int) + 1) = ((i + 1 : Nat) : Int) := by rw [W_id (by omega) (by omega)]; omega
  have hL : lget L (i : Int) = some (num, cFil :: args) := by rw [lget_nat L hi, hg]
  have h0 : lget (cFil :: args) 0 = some cFil := rfl
  have ht : parse_takes cFil = some (2, 1, true) := by kernel_rfl
  rw [tr_yes (decide_eq_true (by omega)), tr_opt, hL, Option.bind_some, hW, tr_opt, h0, Option.bind_some, tr_opt, ht, Option.bind_some]
  dsimp only
  rw [tr_no (b := !true) rfl]
  have hlen : (cFil :: args).length = 3 := by simp [ha]
  have hdrop : List.take ((((cFil :: args).length : Nat) : Int).toNat - Int.toNat 1) (List.drop (Int.toNat 1) (cFil :: args)) = args := by
    rw [Int.toNat_natCast, hlen]
    show List.take 2 args = args
    exact List.take_of_length_le (by omega)
  rw [tr_yes (by rw [hlen]; rfl), hdrop, tr_no (by rw [ha]; rfl)]
  simp only [List.take_length]
  have key := num_loop ZS (s.1, s.2.1, s.2.2.1, s.2.2.2.1, s.2.2.2.2.1, s.2.2.2.2.2.1, s.2.2.2.2.2.2.1, s.2.2.2.2.2.2.2, seen, num, cFil :: args, ()) 1 args [] [] rounds (by simp; omega) (by simp) (rounds_gt (by omega))
  rw [show ([] : List ByteArray).length = 0 from rfl, hk] at key
  obtain ⟨y, key⟩ := key
  simp only [Nat.zero_add, List.nil_append] at key
  have key : numLoop.l0 (ZS, (s.1, s.2.1, s.2.2.1, s.2.2.2.1, s.2.2.2.2.1, s.2.2.2.2.2.1, s.2.2.2.2.2.2.1, s.2.2.2.2.2.2.2, seen, num, cFil :: args, ()), 1, [], .nil, [], args, (args.length : Int), 0, ()) = _ := key
  rw [tr_opt, key, Option.bind_some]
  dsimp only
  rw [tr_yes (b := exEq (Ex.exit 0) (Ex.exit 0)) rfl, tr_no (b := false) rfl, tr_opt, h0, Option.bind_some]
  rw [tr_no (b := ByteArray.toList cFil == ByteArray.toList cMatt) (by kernel_rfl), tr_no (b := ByteArray.toList cFil == ByteArray.toList cMat) (by kernel_rfl), tr_no (b := ByteArray.toList cFil == ByteArray.toList cTri) (by kernel_rfl), tr_no (b := ByteArray.toList cFil == ByteArray.toList cLight) (by kernel_rfl), tr_no (b := ByteArray.toList cFil == ByteArray.toList cCell) (by kernel_rfl), tr_no (b := ByteArray.toList cFil == ByteArray.toList cSky) (by kernel_rfl), tr_yes (b := ByteArray.toList cFil == ByteArray.toList cFil) (by kernel_rfl)]
  simp only [hse]
  rfl
theorem code_filter_dup (s : ScT) (seen : List (ByteArray × Bool)) (n0 : Int) (w0 : List ByteArray) (L : List (Int × List ByteArray)) (i : Nat) (hi : i < L.length) (hn : L.length ≤ 6001) (num : Int) (args : List ByteArray) (hg : L[i] = (num, cFil :: args)) (a0 a1 : Int) (hk : nums 1 0 args = some [a0, a1]) (hse : (mget seen cFil).getD false = true) :
    (parse_Parse.t0 (ZS, .nil, (s.1, s.2.1, s.2.2.1, s.2.2.2.1, s.2.2.2.2.1, s.2.2.2.2.2.1, s.2.2.2.2.2.2.1, s.2.2.2.2.2.2.2, seen, n0, w0, ()), L, (L.length : Int), (i : Int), ())).run =
      some (.ret, ZS, mkErr (some (9, 2, num)), (s.1, s.2.1, s.2.2.1, s.2.2.2.1, s.2.2.2.2.1, s.2.2.2.2.2.1, a0, a1, seen, num, cFil :: args, ()), L, (L.length : Int), (i : Int), ()) := by
  have ha : args.length = 2 := (nums_len _ _ _ _ hk).symm
  unfold parse_Parse.t0
  dsimp only
  have hW : W ((i : Int) + 1) = ((i + 1 : Nat) : Int) := by rw [W_id (by omega) (by omega)]; omega
  have hL : lget L (i : Int) = some (num, cFil :: args) := by rw [lget_nat L hi, hg]
  have h0 : lget (cFil :: args) 0 = some cFil := rfl
  have ht : parse_takes cFil = some (2, 1, true) := by kernel_rfl
  rw [tr_yes (decide_eq_true (by omega)), tr_opt, hL, Option.bind_some, hW, tr_opt, h0, Option.bind_some, tr_opt, ht, Option.bind_some]
  dsimp only
  rw [tr_no (b := !true) rfl]
  have hlen : (cFil :: args).length = 3 := by simp [ha]
  have hdrop : List.take ((((cFil :: args).length : Nat) : Int).toNat - Int.toNat 1) (List.drop (Int.toNat 1) (cFil :: args)) = args := by
    rw [Int.toNat_natCast, hlen]
    show List.take 2 args = args
    exact List.take_of_length_le (by omega)
  rw [tr_yes (by rw [hlen]; rfl), hdrop, tr_no (by rw [ha]; rfl)]
  simp only [List.take_length]
  have key := num_loop ZS (s.1, s.2.1, s.2.2.1, s.2.2.2.1, s.2.2.2.2.1, s.2.2.2.2.2.1, s.2.2.2.2.2.2.1, s.2.2.2.2.2.2.2, seen, num, cFil :: args, ()) 1 args [] [] rounds (by simp; omega) (by simp) (rounds_gt (by omega))
  rw [show ([] : List ByteArray).length = 0 from rfl, hk] at key
  obtain ⟨y, key⟩ := key
  simp only [Nat.zero_add, List.nil_append] at key
  have key : numLoop.l0 (ZS, (s.1, s.2.1, s.2.2.1, s.2.2.2.1, s.2.2.2.2.1, s.2.2.2.2.2.1, s.2.2.2.2.2.2.1, s.2.2.2.2.2.2.2, seen, num, cFil :: args, ()), 1, [], .nil, [], args, (args.length : Int), 0, ()) = _ := key
  rw [tr_opt, key, Option.bind_some]
  dsimp only
  rw [tr_yes (b := exEq (Ex.exit 0) (Ex.exit 0)) rfl, tr_no (b := false) rfl, tr_opt, h0, Option.bind_some]
  rw [tr_no (b := ByteArray.toList cFil == ByteArray.toList cMatt) (by kernel_rfl), tr_no (b := ByteArray.toList cFil == ByteArray.toList cMat) (by kernel_rfl), tr_no (b := ByteArray.toList cFil == ByteArray.toList cTri) (by kernel_rfl), tr_no (b := ByteArray.toList cFil == ByteArray.toList cLight) (by kernel_rfl), tr_no (b := ByteArray.toList cFil == ByteArray.toList cCell) (by kernel_rfl), tr_no (b := ByteArray.toList cFil == ByteArray.toList cSky) (by kernel_rfl), tr_yes (b := ByteArray.toList cFil == ByteArray.toList cFil) (by kernel_rfl)]
  simp only [hse]
  rfl
theorem code_pinhole (s : ScT) (seen : List (ByteArray × Bool)) (n0 : Int) (w0 : List ByteArray) (L : List (Int × List ByteArray)) (i : Nat) (hi : i < L.length) (hn : L.length ≤ 6001) (num : Int) (args : List ByteArray) (hg : L[i] = (num, cPin :: args)) (a0 a1 a2 a3 a4 a5 a6 a7 a8 a9 : Int) (hk : nums 0 0 args = some [a0, a1, a2, a3, a4, a5, a6, a7, a8, a9]) (hse : (mget seen cCam).getD false = false) :
    (parse_Parse.t0 (ZS, .nil, (s.1, s.2.1, s.2.2.1, s.2.2.2.1, s.2.2.2.2.1, s.2.2.2.2.2.1, s.2.2.2.2.2.2.1, s.2.2.2.2.2.2.2, seen, n0, w0, ()), L, (L.length : Int), (i : Int), ())).run =
      some (.normal, ZS, .nil, (s.1, s.2.1, s.2.2.1, s.2.2.2.1, s.2.2.2.2.1, ((a0, a1, a2), (a3, a4, a5), (a6, a7, a8), a9, 0, 1024), s.2.2.2.2.2.2.1, s.2.2.2.2.2.2.2, mset seen cCam true, num, cPin :: args, ()), L, (L.length : Int), ((i + 1 : Nat) : Int), ()) := by
  have ha : args.length = 10 := (nums_len _ _ _ _ hk).symm
  unfold parse_Parse.t0
  dsimp only
  have hW : W ((i : Int) + 1) = ((i + 1 : Nat) : Int) := by rw [W_id (by omega) (by omega)]; omega
  have hL : lget L (i : Int) = some (num, cPin :: args) := by rw [lget_nat L hi, hg]
  have h0 : lget (cPin :: args) 0 = some cPin := rfl
  have ht : parse_takes cPin = some (10, 0, true) := by kernel_rfl
  rw [tr_yes (decide_eq_true (by omega)), tr_opt, hL, Option.bind_some, hW, tr_opt, h0, Option.bind_some, tr_opt, ht, Option.bind_some]
  dsimp only
  rw [tr_no (b := !true) rfl]
  have hlen : (cPin :: args).length = 11 := by simp [ha]
  have hdrop : List.take ((((cPin :: args).length : Nat) : Int).toNat - Int.toNat 1) (List.drop (Int.toNat 1) (cPin :: args)) = args := by
    rw [Int.toNat_natCast, hlen]
    show List.take 10 args = args
    exact List.take_of_length_le (by omega)
  rw [tr_yes (by rw [hlen]; rfl), hdrop, tr_no (by rw [ha]; rfl)]
  simp only [List.take_length]
  have key := num_loop ZS (s.1, s.2.1, s.2.2.1, s.2.2.2.1, s.2.2.2.2.1, s.2.2.2.2.2.1, s.2.2.2.2.2.2.1, s.2.2.2.2.2.2.2, seen, num, cPin :: args, ()) 0 args [] [] rounds (by simp; omega) (by simp) (rounds_gt (by omega))
  rw [show ([] : List ByteArray).length = 0 from rfl, hk] at key
  obtain ⟨y, key⟩ := key
  simp only [Nat.zero_add, List.nil_append] at key
  have key : numLoop.l0 (ZS, (s.1, s.2.1, s.2.2.1, s.2.2.2.1, s.2.2.2.2.1, s.2.2.2.2.2.1, s.2.2.2.2.2.2.1, s.2.2.2.2.2.2.2, seen, num, cPin :: args, ()), 0, [], .nil, [], args, (args.length : Int), 0, ()) = _ := key
  rw [tr_opt, key, Option.bind_some]
  dsimp only
  rw [tr_yes (b := exEq (Ex.exit 0) (Ex.exit 0)) rfl, tr_no (b := false) rfl, tr_opt, h0, Option.bind_some]
  rw [tr_no (b := ByteArray.toList cPin == ByteArray.toList cMatt) (by kernel_rfl), tr_no (b := ByteArray.toList cPin == ByteArray.toList cMat) (by kernel_rfl), tr_no (b := ByteArray.toList cPin == ByteArray.toList cTri) (by kernel_rfl), tr_no (b := ByteArray.toList cPin == ByteArray.toList cLight) (by kernel_rfl), tr_no (b := ByteArray.toList cPin == ByteArray.toList cCell) (by kernel_rfl), tr_no (b := ByteArray.toList cPin == ByteArray.toList cSky) (by kernel_rfl), tr_no (b := ByteArray.toList cPin == ByteArray.toList cFil) (by kernel_rfl), tr_yes (b := ByteArray.toList cPin == ByteArray.toList cPin) (by kernel_rfl)]
  simp only [hse]
  rfl
theorem code_pinhole_dup (s : ScT) (seen : List (ByteArray × Bool)) (n0 : Int) (w0 : List ByteArray) (L : List (Int × List ByteArray)) (i : Nat) (hi : i < L.length) (hn : L.length ≤ 6001) (num : Int) (args : List ByteArray) (hg : L[i] = (num, cPin :: args)) (a0 a1 a2 a3 a4 a5 a6 a7 a8 a9 : Int) (hk : nums 0 0 args = some [a0, a1, a2, a3, a4, a5, a6, a7, a8, a9]) (hse : (mget seen cCam).getD false = true) :
    (parse_Parse.t0 (ZS, .nil, (s.1, s.2.1, s.2.2.1, s.2.2.2.1, s.2.2.2.2.1, s.2.2.2.2.2.1, s.2.2.2.2.2.2.1, s.2.2.2.2.2.2.2, seen, n0, w0, ()), L, (L.length : Int), (i : Int), ())).run =
      some (.ret, ZS, mkErr (some (9, 2, num)), (s.1, s.2.1, s.2.2.1, s.2.2.2.1, s.2.2.2.2.1, ((a0, a1, a2), (a3, a4, a5), (a6, a7, a8), a9, 0, 1024), s.2.2.2.2.2.2.1, s.2.2.2.2.2.2.2, seen, num, cPin :: args, ()), L, (L.length : Int), (i : Int), ()) := by
  have ha : args.length = 10 := (nums_len _ _ _ _ hk).symm
  unfold parse_Parse.t0
  dsimp only
  have hW : W ((i : Int) + 1) = ((i + 1 : Nat) : Int) := by rw [W_id (by omega) (by omega)]; omega
  have hL : lget L (i : Int) = some (num, cPin :: args) := by rw [lget_nat L hi, hg]
  have h0 : lget (cPin :: args) 0 = some cPin := rfl
  have ht : parse_takes cPin = some (10, 0, true) := by kernel_rfl
  rw [tr_yes (decide_eq_true (by omega)), tr_opt, hL, Option.bind_some, hW, tr_opt, h0, Option.bind_some, tr_opt, ht, Option.bind_some]
  dsimp only
  rw [tr_no (b := !true) rfl]
  have hlen : (cPin :: args).length = 11 := by simp [ha]
  have hdrop : List.take ((((cPin :: args).length : Nat) : Int).toNat - Int.toNat 1) (List.drop (Int.toNat 1) (cPin :: args)) = args := by
    rw [Int.toNat_natCast, hlen]
    show List.take 10 args = args
    exact List.take_of_length_le (by omega)
  rw [tr_yes (by rw [hlen]; rfl), hdrop, tr_no (by rw [ha]; rfl)]
  simp only [List.take_length]
  have key := num_loop ZS (s.1, s.2.1, s.2.2.1, s.2.2.2.1, s.2.2.2.2.1, s.2.2.2.2.2.1, s.2.2.2.2.2.2.1, s.2.2.2.2.2.2.2, seen, num, cPin :: args, ()) 0 args [] [] rounds (by simp; omega) (by simp) (rounds_gt (by omega))
  rw [show ([] : List ByteArray).length = 0 from rfl, hk] at key
  obtain ⟨y, key⟩ := key
  simp only [Nat.zero_add, List.nil_append] at key
  have key : numLoop.l0 (ZS, (s.1, s.2.1, s.2.2.1, s.2.2.2.1, s.2.2.2.2.1, s.2.2.2.2.2.1, s.2.2.2.2.2.2.1, s.2.2.2.2.2.2.2, seen, num, cPin :: args, ()), 0, [], .nil, [], args, (args.length : Int), 0, ()) = _ := key
  rw [tr_opt, key, Option.bind_some]
  dsimp only
  rw [tr_yes (b := exEq (Ex.exit 0) (Ex.exit 0)) rfl, tr_no (b := false) rfl, tr_opt, h0, Option.bind_some]
  rw [tr_no (b := ByteArray.toList cPin == ByteArray.toList cMatt) (by kernel_rfl), tr_no (b := ByteArray.toList cPin == ByteArray.toList cMat) (by kernel_rfl), tr_no (b := ByteArray.toList cPin == ByteArray.toList cTri) (by kernel_rfl), tr_no (b := ByteArray.toList cPin == ByteArray.toList cLight) (by kernel_rfl), tr_no (b := ByteArray.toList cPin == ByteArray.toList cCell) (by kernel_rfl), tr_no (b := ByteArray.toList cPin == ByteArray.toList cSky) (by kernel_rfl), tr_no (b := ByteArray.toList cPin == ByteArray.toList cFil) (by kernel_rfl), tr_yes (b := ByteArray.toList cPin == ByteArray.toList cPin) (by kernel_rfl)]
  simp only [hse]
  rfl
theorem code_camera (s : ScT) (seen : List (ByteArray × Bool)) (n0 : Int) (w0 : List ByteArray) (L : List (Int × List ByteArray)) (i : Nat) (hi : i < L.length) (hn : L.length ≤ 6001) (num : Int) (args : List ByteArray) (hg : L[i] = (num, cCam :: args)) (a0 a1 a2 a3 a4 a5 a6 a7 a8 a9 a10 a11 : Int) (hk : nums 0 0 args = some [a0, a1, a2, a3, a4, a5, a6, a7, a8, a9, a10, a11]) (hse : (mget seen cCam).getD false = false) :
    (parse_Parse.t0 (ZS, .nil, (s.1, s.2.1, s.2.2.1, s.2.2.2.1, s.2.2.2.2.1, s.2.2.2.2.2.1, s.2.2.2.2.2.2.1, s.2.2.2.2.2.2.2, seen, n0, w0, ()), L, (L.length : Int), (i : Int), ())).run =
      some (.normal, ZS, .nil, (s.1, s.2.1, s.2.2.1, s.2.2.2.1, s.2.2.2.2.1, ((a0, a1, a2), (a3, a4, a5), (a6, a7, a8), a9, a10, a11), s.2.2.2.2.2.2.1, s.2.2.2.2.2.2.2, mset seen cCam true, num, cCam :: args, ()), L, (L.length : Int), ((i + 1 : Nat) : Int), ()) := by
  have ha : args.length = 12 := (nums_len _ _ _ _ hk).symm
  unfold parse_Parse.t0
  dsimp only
  have hW : W ((i : Int) + 1) = ((i + 1 : Nat) : Int) := by rw [W_id (by omega) (by omega)]; omega
  have hL : lget L (i : Int) = some (num, cCam :: args) := by rw [lget_nat L hi, hg]
  have h0 : lget (cCam :: args) 0 = some cCam := rfl
  have ht : parse_takes cCam = some (12, 0, true) := by kernel_rfl
  rw [tr_yes (decide_eq_true (by omega)), tr_opt, hL, Option.bind_some, hW, tr_opt, h0, Option.bind_some, tr_opt, ht, Option.bind_some]
  dsimp only
  rw [tr_no (b := !true) rfl]
  have hlen : (cCam :: args).length = 13 := by simp [ha]
  have hdrop : List.take ((((cCam :: args).length : Nat) : Int).toNat - Int.toNat 1) (List.drop (Int.toNat 1) (cCam :: args)) = args := by
    rw [Int.toNat_natCast, hlen]
    show List.take 12 args = args
    exact List.take_of_length_le (by omega)
  rw [tr_yes (by rw [hlen]; rfl), hdrop, tr_no (by rw [ha]; rfl)]
  simp only [List.take_length]
  have key := num_loop ZS (s.1, s.2.1, s.2.2.1, s.2.2.2.1, s.2.2.2.2.1, s.2.2.2.2.2.1, s.2.2.2.2.2.2.1, s.2.2.2.2.2.2.2, seen, num, cCam :: args, ()) 0 args [] [] rounds (by simp; omega) (by simp) (rounds_gt (by omega))
  rw [show ([] : List ByteArray).length = 0 from rfl, hk] at key
  obtain ⟨y, key⟩ := key
  simp only [Nat.zero_add, List.nil_append] at key
  have key : numLoop.l0 (ZS, (s.1, s.2.1, s.2.2.1, s.2.2.2.1, s.2.2.2.2.1, s.2.2.2.2.2.1, s.2.2.2.2.2.2.1, s.2.2.2.2.2.2.2, seen, num, cCam :: args, ()), 0, [], .nil, [], args, (args.length : Int), 0, ()) = _ := key
  rw [tr_opt, key, Option.bind_some]
  dsimp only
  rw [tr_yes (b := exEq (Ex.exit 0) (Ex.exit 0)) rfl, tr_no (b := false) rfl, tr_opt, h0, Option.bind_some]
  rw [tr_no (b := ByteArray.toList cCam == ByteArray.toList cMatt) (by kernel_rfl), tr_no (b := ByteArray.toList cCam == ByteArray.toList cMat) (by kernel_rfl), tr_no (b := ByteArray.toList cCam == ByteArray.toList cTri) (by kernel_rfl), tr_no (b := ByteArray.toList cCam == ByteArray.toList cLight) (by kernel_rfl), tr_no (b := ByteArray.toList cCam == ByteArray.toList cCell) (by kernel_rfl), tr_no (b := ByteArray.toList cCam == ByteArray.toList cSky) (by kernel_rfl), tr_no (b := ByteArray.toList cCam == ByteArray.toList cFil) (by kernel_rfl), tr_no (b := ByteArray.toList cCam == ByteArray.toList cPin) (by kernel_rfl)]
  simp only [hse]
  rfl
theorem code_camera_dup (s : ScT) (seen : List (ByteArray × Bool)) (n0 : Int) (w0 : List ByteArray) (L : List (Int × List ByteArray)) (i : Nat) (hi : i < L.length) (hn : L.length ≤ 6001) (num : Int) (args : List ByteArray) (hg : L[i] = (num, cCam :: args)) (a0 a1 a2 a3 a4 a5 a6 a7 a8 a9 a10 a11 : Int) (hk : nums 0 0 args = some [a0, a1, a2, a3, a4, a5, a6, a7, a8, a9, a10, a11]) (hse : (mget seen cCam).getD false = true) :
    (parse_Parse.t0 (ZS, .nil, (s.1, s.2.1, s.2.2.1, s.2.2.2.1, s.2.2.2.2.1, s.2.2.2.2.2.1, s.2.2.2.2.2.2.1, s.2.2.2.2.2.2.2, seen, n0, w0, ()), L, (L.length : Int), (i : Int), ())).run =
      some (.ret, ZS, mkErr (some (9, 2, num)), (s.1, s.2.1, s.2.2.1, s.2.2.2.1, s.2.2.2.2.1, ((a0, a1, a2), (a3, a4, a5), (a6, a7, a8), a9, a10, a11), s.2.2.2.2.2.2.1, s.2.2.2.2.2.2.2, seen, num, cCam :: args, ()), L, (L.length : Int), (i : Int), ()) := by
  have ha : args.length = 12 := (nums_len _ _ _ _ hk).symm
  unfold parse_Parse.t0
  dsimp only
  have hW : W ((i : Int) + 1) = ((i + 1 : Nat) : Int) := by rw [W_id (by omega) (by omega)]; omega
  have hL : lget L (i : Int) = some (num, cCam :: args) := by rw [lget_nat L hi, hg]
  have h0 : lget (cCam :: args) 0 = some cCam := rfl
  have ht : parse_takes cCam = some (12, 0, true) := by kernel_rfl
  rw [tr_yes (decide_eq_true (by omega)), tr_opt, hL, Option.bind_some, hW, tr_opt, h0, Option.bind_some, tr_opt, ht, Option.bind_some]
  dsimp only
  rw [tr_no (b := !true) rfl]
  have hlen : (cCam :: args).length = 13 := by simp [ha]
  have hdrop : List.take ((((cCam :: args).length : Nat) : Int).toNat - Int.toNat 1) (List.drop (Int.toNat 1) (cCam :: args)) = args := by
    rw [Int.toNat_natCast, hlen]
    show List.take 12 args = args
    exact List.take_of_length_le (by omega)
  rw [tr_yes (by rw [hlen]; rfl), hdrop, tr_no (by rw [ha]; rfl)]
  simp only [List.take_length]
  have key := num_loop ZS (s.1, s.2.1, s.2.2.1, s.2.2.2.1, s.2.2.2.2.1, s.2.2.2.2.2.1, s.2.2.2.2.2.2.1, s.2.2.2.2.2.2.2, seen, num, cCam :: args, ()) 0 args [] [] rounds (by simp; omega) (by simp) (rounds_gt (by omega))
  rw [show ([] : List ByteArray).length = 0 from rfl, hk] at key
  obtain ⟨y, key⟩ := key
  simp only [Nat.zero_add, List.nil_append] at key
  have key : numLoop.l0 (ZS, (s.1, s.2.1, s.2.2.1, s.2.2.2.1, s.2.2.2.2.1, s.2.2.2.2.2.1, s.2.2.2.2.2.2.1, s.2.2.2.2.2.2.2, seen, num, cCam :: args, ()), 0, [], .nil, [], args, (args.length : Int), 0, ()) = _ := key
  rw [tr_opt, key, Option.bind_some]
  dsimp only
  rw [tr_yes (b := exEq (Ex.exit 0) (Ex.exit 0)) rfl, tr_no (b := false) rfl, tr_opt, h0, Option.bind_some]
  rw [tr_no (b := ByteArray.toList cCam == ByteArray.toList cMatt) (by kernel_rfl), tr_no (b := ByteArray.toList cCam == ByteArray.toList cMat) (by kernel_rfl), tr_no (b := ByteArray.toList cCam == ByteArray.toList cTri) (by kernel_rfl), tr_no (b := ByteArray.toList cCam == ByteArray.toList cLight) (by kernel_rfl), tr_no (b := ByteArray.toList cCam == ByteArray.toList cCell) (by kernel_rfl), tr_no (b := ByteArray.toList cCam == ByteArray.toList cSky) (by kernel_rfl), tr_no (b := ByteArray.toList cCam == ByteArray.toList cFil) (by kernel_rfl), tr_no (b := ByteArray.toList cCam == ByteArray.toList cPin) (by kernel_rfl)]
  simp only [hse]
  rfl
end Go.Proofs.Pen

namespace Go.Proofs.Pen
open Go Go.Proofs

theorem put_mat (s : ScT) (a0 a1 a2 a3 a4 a5 a6 : Int) (hs : s.1.length ≤ 6001) : ref24_Put (s, cMat, [a0, a1, a2, a3, a4, a5, a6]) = some (s.1 ++ [((a0, a1, a2), (a3, a4, a5), a6)], s.2.1, s.2.2.1, s.2.2.2.1, s.2.2.2.2.1, s.2.2.2.2.2.1, s.2.2.2.2.2.2.1, s.2.2.2.2.2.2.2) := by
  unfold ref24_Put ref24_Put.t
  dsimp only
  rw [tr_yes (b := ByteArray.toList cMat == ByteArray.toList cMat) (by kernel_rfl)]
  have hroom : decide ((s.1.length + 1) * 56 ≤ most) = true := decide_eq_true (room (by omega) (by omega))
  have hroom0 : decide (s.1.length * 56 ≤ most) = true := decide_eq_true (by unfold most; omega)
  simp only [Nat.zero_add, hroom, hroom0, List.take_zero, List.nil_append, List.take_length, take_snoc]
  rfl
theorem ref_mat (s : ScT) (cam sky fil : Bool) (Ls : List ByteArray) (i : Nat) (hi : i < Ls.length) (hn : Ls.length ≤ 6001) (args : List ByteArray) (hl : args.length ≤ 6000) (hg : ref23_Words Ls[i] = some (cMat :: args)) (a0 a1 a2 a3 a4 a5 a6 : Int) (hk : nums 0 0 args = some [a0, a1, a2, a3, a4, a5, a6]) (hs : s.1.length ≤ 6001) :
    (ref24_Parse.t0 (ZS, (0, 0, 0), s, cam, sky, fil, Ls, (i : Int), ())).run = some (.normal, ZS, (0, 0, 0), (s.1 ++ [((a0, a1, a2), (a3, a4, a5), a6)], s.2.1, s.2.2.1, s.2.2.2.1, s.2.2.2.2.1, s.2.2.2.2.2.1, s.2.2.2.2.2.2.1, s.2.2.2.2.2.2.2), cam, sky, fil, Ls, ((i + 1 : Nat) : Int), ()) := by
  have ha : args.length = 7 := (nums_len _ _ _ _ hk).symm
  unfold ref24_Parse.t0
  dsimp only
  have hW : W ((i : Int) + 1) = ((i + 1 : Nat) : Int) := by rw [W_id (by omega) (by omega)]; omega
  have h0 : lget (cMat :: args) 0 = some cMat := rfl
  have ht : ref24_Takes cMat = some (7, 0) := by kernel_rfl
  have hlen : (cMat :: args).length = 8 := by simp [ha]
  obtain ⟨r, h1, _, h2⟩ := Numbers_ref cMat args 0 hl
  have h2 := h2 _ hk
  subst h2
  have hp := put_mat s a0 a1 a2 a3 a4 a5 a6 hs
  simp only [hW]
  rw [tr_yes (decide_eq_true (by omega)), tr_opt, lget_nat Ls hi, Option.bind_some, tr_opt, hg, Option.bind_some, tr_no (by rw [hlen]; rfl), tr_opt, h0, Option.bind_some, tr_opt, ht, Option.bind_some]
  dsimp only
  rw [tr_no (by rfl), tr_no (by rw [hlen]; rfl), tr_opt, h1, Option.bind_some]
  dsimp only
  have q0 : (ByteArray.toList cMat == (ByteArray.mk #[99, 97, 109, 101, 114, 97]).toList) = false := by kernel_rfl
  have q1 : (ByteArray.toList cMat == (ByteArray.mk #[112, 105, 110, 104, 111, 108, 101]).toList) = false := by kernel_rfl
  have q2 : (ByteArray.toList cMat == (ByteArray.mk #[115, 107, 121]).toList) = false := by kernel_rfl
  have q3 : (ByteArray.toList cMat == (ByteArray.mk #[102, 105, 108, 116, 101, 114]).toList) = false := by kernel_rfl
  cases cam <;> cases sky <;> cases fil <;> simp only [tr_ite, tr_opt, tr_ret, Option.bind_some, q0, q1, q2, q3, hp, Bool.not_true, Bool.and_true, Bool.and_false, Bool.or_false, if_true, if_false, Bool.false_eq_true]
theorem put_matt (s : ScT) (a0 a1 a2 : Int) (hs : s.1.length ≤ 6001) : ref24_Put (s, cMatt, [a0, a1, a2]) = some (s.1 ++ [((a0, a1, a2), (0, 0, 0), 1024)], s.2.1, s.2.2.1, s.2.2.2.1, s.2.2.2.2.1, s.2.2.2.2.2.1, s.2.2.2.2.2.2.1, s.2.2.2.2.2.2.2) := by
  unfold ref24_Put ref24_Put.t
  dsimp only
  rw [tr_no (b := ByteArray.toList cMatt == ByteArray.toList cMat) (by kernel_rfl), tr_yes (b := ByteArray.toList cMatt == ByteArray.toList cMatt) (by kernel_rfl)]
  have hroom : decide ((s.1.length + 1) * 56 ≤ most) = true := decide_eq_true (room (by omega) (by omega))
  have hroom0 : decide (s.1.length * 56 ≤ most) = true := decide_eq_true (by unfold most; omega)
  simp only [Nat.zero_add, hroom, hroom0, List.take_zero, List.nil_append, List.take_length, take_snoc]
  rfl
theorem ref_matt (s : ScT) (cam sky fil : Bool) (Ls : List ByteArray) (i : Nat) (hi : i < Ls.length) (hn : Ls.length ≤ 6001) (args : List ByteArray) (hl : args.length ≤ 6000) (hg : ref23_Words Ls[i] = some (cMatt :: args)) (a0 a1 a2 : Int) (hk : nums 0 0 args = some [a0, a1, a2]) (hs : s.1.length ≤ 6001) :
    (ref24_Parse.t0 (ZS, (0, 0, 0), s, cam, sky, fil, Ls, (i : Int), ())).run = some (.normal, ZS, (0, 0, 0), (s.1 ++ [((a0, a1, a2), (0, 0, 0), 1024)], s.2.1, s.2.2.1, s.2.2.2.1, s.2.2.2.2.1, s.2.2.2.2.2.1, s.2.2.2.2.2.2.1, s.2.2.2.2.2.2.2), cam, sky, fil, Ls, ((i + 1 : Nat) : Int), ()) := by
  have ha : args.length = 3 := (nums_len _ _ _ _ hk).symm
  unfold ref24_Parse.t0
  dsimp only
  have hW : W ((i : Int) + 1) = ((i + 1 : Nat) : Int) := by rw [W_id (by omega) (by omega)]; omega
  have h0 : lget (cMatt :: args) 0 = some cMatt := rfl
  have ht : ref24_Takes cMatt = some (3, 0) := by kernel_rfl
  have hlen : (cMatt :: args).length = 4 := by simp [ha]
  obtain ⟨r, h1, _, h2⟩ := Numbers_ref cMatt args 0 hl
  have h2 := h2 _ hk
  subst h2
  have hp := put_matt s a0 a1 a2 hs
  simp only [hW]
  rw [tr_yes (decide_eq_true (by omega)), tr_opt, lget_nat Ls hi, Option.bind_some, tr_opt, hg, Option.bind_some, tr_no (by rw [hlen]; rfl), tr_opt, h0, Option.bind_some, tr_opt, ht, Option.bind_some]
  dsimp only
  rw [tr_no (by rfl), tr_no (by rw [hlen]; rfl), tr_opt, h1, Option.bind_some]
  dsimp only
  have q0 : (ByteArray.toList cMatt == (ByteArray.mk #[99, 97, 109, 101, 114, 97]).toList) = false := by kernel_rfl
  have q1 : (ByteArray.toList cMatt == (ByteArray.mk #[112, 105, 110, 104, 111, 108, 101]).toList) = false := by kernel_rfl
  have q2 : (ByteArray.toList cMatt == (ByteArray.mk #[115, 107, 121]).toList) = false := by kernel_rfl
  have q3 : (ByteArray.toList cMatt == (ByteArray.mk #[102, 105, 108, 116, 101, 114]).toList) = false := by kernel_rfl
  cases cam <;> cases sky <;> cases fil <;> simp only [tr_ite, tr_opt, tr_ret, Option.bind_some, q0, q1, q2, q3, hp, Bool.not_true, Bool.and_true, Bool.and_false, Bool.or_false, if_true, if_false, Bool.false_eq_true]
theorem put_tri (s : ScT) (a0 a1 a2 a3 a4 a5 a6 a7 a8 a9 : Int) (hs : s.2.1.length ≤ 6001) : ref24_Put (s, cTri, [a0, a1, a2, a3, a4, a5, a6, a7, a8, a9]) = some (s.1, s.2.1 ++ [((a1, a2, a3), (a4, a5, a6), (a7, a8, a9), a0)], s.2.2.1, s.2.2.2.1, s.2.2.2.2.1, s.2.2.2.2.2.1, s.2.2.2.2.2.2.1, s.2.2.2.2.2.2.2) := by
  unfold ref24_Put ref24_Put.t
  dsimp only
  rw [tr_no (b := ByteArray.toList cTri == ByteArray.toList cMat) (by kernel_rfl), tr_no (b := ByteArray.toList cTri == ByteArray.toList cMatt) (by kernel_rfl), tr_yes (b := ByteArray.toList cTri == ByteArray.toList cTri) (by kernel_rfl)]
  have hroom : decide ((s.2.1.length + 1) * 80 ≤ most) = true := decide_eq_true (room (by omega) (by omega))
  have hroom0 : decide (s.2.1.length * 80 ≤ most) = true := decide_eq_true (by unfold most; omega)
  simp only [Nat.zero_add, hroom, hroom0, List.take_zero, List.nil_append, List.take_length, take_snoc]
  rfl
theorem ref_tri (s : ScT) (cam sky fil : Bool) (Ls : List ByteArray) (i : Nat) (hi : i < Ls.length) (hn : Ls.length ≤ 6001) (args : List ByteArray) (hl : args.length ≤ 6000) (hg : ref23_Words Ls[i] = some (cTri :: args)) (a0 a1 a2 a3 a4 a5 a6 a7 a8 a9 : Int) (hk : nums 1 0 args = some [a0, a1, a2, a3, a4, a5, a6, a7, a8, a9]) (hs : s.2.1.length ≤ 6001) :
    (ref24_Parse.t0 (ZS, (0, 0, 0), s, cam, sky, fil, Ls, (i : Int), ())).run = some (.normal, ZS, (0, 0, 0), (s.1, s.2.1 ++ [((a1, a2, a3), (a4, a5, a6), (a7, a8, a9), a0)], s.2.2.1, s.2.2.2.1, s.2.2.2.2.1, s.2.2.2.2.2.1, s.2.2.2.2.2.2.1, s.2.2.2.2.2.2.2), cam, sky, fil, Ls, ((i + 1 : Nat) : Int), ()) := by
  have ha : args.length = 10 := (nums_len _ _ _ _ hk).symm
  unfold ref24_Parse.t0
  dsimp only
  have hW : W ((i : Int) + 1) = ((i + 1 : Nat) : Int) := by rw [W_id (by omega) (by omega)]; omega
  have h0 : lget (cTri :: args) 0 = some cTri := rfl
  have ht : ref24_Takes cTri = some (10, 1) := by kernel_rfl
  have hlen : (cTri :: args).length = 11 := by simp [ha]
  obtain ⟨r, h1, _, h2⟩ := Numbers_ref cTri args 1 hl
  have h2 := h2 _ hk
  subst h2
  have hp := put_tri s a0 a1 a2 a3 a4 a5 a6 a7 a8 a9 hs
  simp only [hW]
  rw [tr_yes (decide_eq_true (by omega)), tr_opt, lget_nat Ls hi, Option.bind_some, tr_opt, hg, Option.bind_some, tr_no (by rw [hlen]; rfl), tr_opt, h0, Option.bind_some, tr_opt, ht, Option.bind_some]
  dsimp only
  rw [tr_no (by rfl), tr_no (by rw [hlen]; rfl), tr_opt, h1, Option.bind_some]
  dsimp only
  have q0 : (ByteArray.toList cTri == (ByteArray.mk #[99, 97, 109, 101, 114, 97]).toList) = false := by kernel_rfl
  have q1 : (ByteArray.toList cTri == (ByteArray.mk #[112, 105, 110, 104, 111, 108, 101]).toList) = false := by kernel_rfl
  have q2 : (ByteArray.toList cTri == (ByteArray.mk #[115, 107, 121]).toList) = false := by kernel_rfl
  have q3 : (ByteArray.toList cTri == (ByteArray.mk #[102, 105, 108, 116, 101, 114]).toList) = false := by kernel_rfl
  cases cam <;> cases sky <;> cases fil <;> simp only [tr_ite, tr_opt, tr_ret, Option.bind_some, q0, q1, q2, q3, hp, Bool.not_true, Bool.and_true, Bool.and_false, Bool.or_false, if_true, if_false, Bool.false_eq_true]
theorem put_light (s : ScT) (a0 a1 a2 a3 : Int) (hs : s.2.2.1.length ≤ 6001) : ref24_Put (s, cLight, [a0, a1, a2, a3]) = some (s.1, s.2.1, s.2.2.1 ++ [(a0, (a1, a2, a3))], s.2.2.2.1, s.2.2.2.2.1, s.2.2.2.2.2.1, s.2.2.2.2.2.2.1, s.2.2.2.2.2.2.2) := by
  unfold ref24_Put ref24_Put.t
  dsimp only
  rw [tr_no (b := ByteArray.toList cLight == ByteArray.toList cMat) (by kernel_rfl), tr_no (b := ByteArray.toList cLight == ByteArray.toList cMatt) (by kernel_rfl), tr_no (b := ByteArray.toList cLight == ByteArray.toList cTri) (by kernel_rfl), tr_yes (b := ByteArray.toList cLight == ByteArray.toList cLight) (by kernel_rfl)]
  have hroom : decide ((s.2.2.1.length + 1) * 32 ≤ most) = true := decide_eq_true (room (by omega) (by omega))
  have hroom0 : decide (s.2.2.1.length * 32 ≤ most) = true := decide_eq_true (by unfold most; omega)
  simp only [Nat.zero_add, hroom, hroom0, List.take_zero, List.nil_append, List.take_length, take_snoc]
  rfl
theorem ref_light (s : ScT) (cam sky fil : Bool) (Ls : List ByteArray) (i : Nat) (hi : i < Ls.length) (hn : Ls.length ≤ 6001) (args : List ByteArray) (hl : args.length ≤ 6000) (hg : ref23_Words Ls[i] = some (cLight :: args)) (a0 a1 a2 a3 : Int) (hk : nums 1 0 args = some [a0, a1, a2, a3]) (hs : s.2.2.1.length ≤ 6001) :
    (ref24_Parse.t0 (ZS, (0, 0, 0), s, cam, sky, fil, Ls, (i : Int), ())).run = some (.normal, ZS, (0, 0, 0), (s.1, s.2.1, s.2.2.1 ++ [(a0, (a1, a2, a3))], s.2.2.2.1, s.2.2.2.2.1, s.2.2.2.2.2.1, s.2.2.2.2.2.2.1, s.2.2.2.2.2.2.2), cam, sky, fil, Ls, ((i + 1 : Nat) : Int), ()) := by
  have ha : args.length = 4 := (nums_len _ _ _ _ hk).symm
  unfold ref24_Parse.t0
  dsimp only
  have hW : W ((i : Int) + 1) = ((i + 1 : Nat) : Int) := by rw [W_id (by omega) (by omega)]; omega
  have h0 : lget (cLight :: args) 0 = some cLight := rfl
  have ht : ref24_Takes cLight = some (4, 1) := by kernel_rfl
  have hlen : (cLight :: args).length = 5 := by simp [ha]
  obtain ⟨r, h1, _, h2⟩ := Numbers_ref cLight args 1 hl
  have h2 := h2 _ hk
  subst h2
  have hp := put_light s a0 a1 a2 a3 hs
  simp only [hW]
  rw [tr_yes (decide_eq_true (by omega)), tr_opt, lget_nat Ls hi, Option.bind_some, tr_opt, hg, Option.bind_some, tr_no (by rw [hlen]; rfl), tr_opt, h0, Option.bind_some, tr_opt, ht, Option.bind_some]
  dsimp only
  rw [tr_no (by rfl), tr_no (by rw [hlen]; rfl), tr_opt, h1, Option.bind_some]
  dsimp only
  have q0 : (ByteArray.toList cLight == (ByteArray.mk #[99, 97, 109, 101, 114, 97]).toList) = false := by kernel_rfl
  have q1 : (ByteArray.toList cLight == (ByteArray.mk #[112, 105, 110, 104, 111, 108, 101]).toList) = false := by kernel_rfl
  have q2 : (ByteArray.toList cLight == (ByteArray.mk #[115, 107, 121]).toList) = false := by kernel_rfl
  have q3 : (ByteArray.toList cLight == (ByteArray.mk #[102, 105, 108, 116, 101, 114]).toList) = false := by kernel_rfl
  cases cam <;> cases sky <;> cases fil <;> simp only [tr_ite, tr_opt, tr_ret, Option.bind_some, q0, q1, q2, q3, hp, Bool.not_true, Bool.and_true, Bool.and_false, Bool.or_false, if_true, if_false, Bool.false_eq_true]
theorem put_cell (s : ScT) (a0 a1 a2 : Int) (hs : s.2.2.2.2.1.length ≤ 6001) : ref24_Put (s, cCell, [a0, a1, a2]) = some (s.1, s.2.1, s.2.2.1, s.2.2.2.1, s.2.2.2.2.1 ++ [(a0, a1, a2)], s.2.2.2.2.2.1, s.2.2.2.2.2.2.1, s.2.2.2.2.2.2.2) := by
  unfold ref24_Put ref24_Put.t
  dsimp only
  rw [tr_no (b := ByteArray.toList cCell == ByteArray.toList cMat) (by kernel_rfl), tr_no (b := ByteArray.toList cCell == ByteArray.toList cMatt) (by kernel_rfl), tr_no (b := ByteArray.toList cCell == ByteArray.toList cTri) (by kernel_rfl), tr_no (b := ByteArray.toList cCell == ByteArray.toList cLight) (by kernel_rfl), tr_yes (b := ByteArray.toList cCell == ByteArray.toList cCell) (by kernel_rfl)]
  have hroom : decide ((s.2.2.2.2.1.length + 1) * 24 ≤ most) = true := decide_eq_true (room (by omega) (by omega))
  have hroom0 : decide (s.2.2.2.2.1.length * 24 ≤ most) = true := decide_eq_true (by unfold most; omega)
  simp only [Nat.zero_add, hroom, hroom0, List.take_zero, List.nil_append, List.take_length, take_snoc]
  rfl
theorem ref_cell (s : ScT) (cam sky fil : Bool) (Ls : List ByteArray) (i : Nat) (hi : i < Ls.length) (hn : Ls.length ≤ 6001) (args : List ByteArray) (hl : args.length ≤ 6000) (hg : ref23_Words Ls[i] = some (cCell :: args)) (a0 a1 a2 : Int) (hk : nums 0 0 args = some [a0, a1, a2]) (hs : s.2.2.2.2.1.length ≤ 6001) :
    (ref24_Parse.t0 (ZS, (0, 0, 0), s, cam, sky, fil, Ls, (i : Int), ())).run = some (.normal, ZS, (0, 0, 0), (s.1, s.2.1, s.2.2.1, s.2.2.2.1, s.2.2.2.2.1 ++ [(a0, a1, a2)], s.2.2.2.2.2.1, s.2.2.2.2.2.2.1, s.2.2.2.2.2.2.2), cam, sky, fil, Ls, ((i + 1 : Nat) : Int), ()) := by
  have ha : args.length = 3 := (nums_len _ _ _ _ hk).symm
  unfold ref24_Parse.t0
  dsimp only
  have hW : W ((i : Int) + 1) = ((i + 1 : Nat) : Int) := by rw [W_id (by omega) (by omega)]; omega
  have h0 : lget (cCell :: args) 0 = some cCell := rfl
  have ht : ref24_Takes cCell = some (3, 0) := by kernel_rfl
  have hlen : (cCell :: args).length = 4 := by simp [ha]
  obtain ⟨r, h1, _, h2⟩ := Numbers_ref cCell args 0 hl
  have h2 := h2 _ hk
  subst h2
  have hp := put_cell s a0 a1 a2 hs
  simp only [hW]
  rw [tr_yes (decide_eq_true (by omega)), tr_opt, lget_nat Ls hi, Option.bind_some, tr_opt, hg, Option.bind_some, tr_no (by rw [hlen]; rfl), tr_opt, h0, Option.bind_some, tr_opt, ht, Option.bind_some]
  dsimp only
  rw [tr_no (by rfl), tr_no (by rw [hlen]; rfl), tr_opt, h1, Option.bind_some]
  dsimp only
  have q0 : (ByteArray.toList cCell == (ByteArray.mk #[99, 97, 109, 101, 114, 97]).toList) = false := by kernel_rfl
  have q1 : (ByteArray.toList cCell == (ByteArray.mk #[112, 105, 110, 104, 111, 108, 101]).toList) = false := by kernel_rfl
  have q2 : (ByteArray.toList cCell == (ByteArray.mk #[115, 107, 121]).toList) = false := by kernel_rfl
  have q3 : (ByteArray.toList cCell == (ByteArray.mk #[102, 105, 108, 116, 101, 114]).toList) = false := by kernel_rfl
  cases cam <;> cases sky <;> cases fil <;> simp only [tr_ite, tr_opt, tr_ret, Option.bind_some, q0, q1, q2, q3, hp, Bool.not_true, Bool.and_true, Bool.and_false, Bool.or_false, if_true, if_false, Bool.false_eq_true]
theorem put_sky (s : ScT) (a0 : Int) : ref24_Put (s, cSky, [a0]) = some (s.1, s.2.1, s.2.2.1, a0, s.2.2.2.2.1, s.2.2.2.2.2.1, s.2.2.2.2.2.2.1, s.2.2.2.2.2.2.2) := by
  unfold ref24_Put ref24_Put.t
  dsimp only
  rw [tr_no (b := ByteArray.toList cSky == ByteArray.toList cMat) (by kernel_rfl), tr_no (b := ByteArray.toList cSky == ByteArray.toList cMatt) (by kernel_rfl), tr_no (b := ByteArray.toList cSky == ByteArray.toList cTri) (by kernel_rfl), tr_no (b := ByteArray.toList cSky == ByteArray.toList cLight) (by kernel_rfl), tr_no (b := ByteArray.toList cSky == ByteArray.toList cCell) (by kernel_rfl), tr_yes (b := ByteArray.toList cSky == ByteArray.toList cSky) (by kernel_rfl)]
  rfl
theorem ref_sky (s : ScT) (cam sky fil : Bool) (Ls : List ByteArray) (i : Nat) (hi : i < Ls.length) (hn : Ls.length ≤ 6001) (args : List ByteArray) (hl : args.length ≤ 6000) (hg : ref23_Words Ls[i] = some (cSky :: args)) (a0 : Int) (hk : nums 1 0 args = some [a0]) (hse : sky = false) :
    (ref24_Parse.t0 (ZS, (0, 0, 0), s, cam, sky, fil, Ls, (i : Int), ())).run = some (.normal, ZS, (0, 0, 0), (s.1, s.2.1, s.2.2.1, a0, s.2.2.2.2.1, s.2.2.2.2.2.1, s.2.2.2.2.2.2.1, s.2.2.2.2.2.2.2), cam, true, fil, Ls, ((i + 1 : Nat) : Int), ()) := by
  have ha : args.length = 1 := (nums_len _ _ _ _ hk).symm
  unfold ref24_Parse.t0
  dsimp only
  have hW : W ((i : Int) + 1) = ((i + 1 : Nat) : Int) := by rw [W_id (by omega) (by omega)]; omega
  have h0 : lget (cSky :: args) 0 = some cSky := rfl
  have ht : ref24_Takes cSky = some (1, 1) := by kernel_rfl
  have hlen : (cSky :: args).length = 2 := by simp [ha]
  obtain ⟨r, h1, _, h2⟩ := Numbers_ref cSky args 1 hl
  have h2 := h2 _ hk
  subst h2
  have hp := put_sky s a0
  simp only [hW]
  rw [tr_yes (decide_eq_true (by omega)), tr_opt, lget_nat Ls hi, Option.bind_some, tr_opt, hg, Option.bind_some, tr_no (by rw [hlen]; rfl), tr_opt, h0, Option.bind_some, tr_opt, ht, Option.bind_some]
  dsimp only
  rw [tr_no (by rfl), tr_no (by rw [hlen]; rfl), tr_opt, h1, Option.bind_some]
  dsimp only
  have q0 : (ByteArray.toList cSky == (ByteArray.mk #[99, 97, 109, 101, 114, 97]).toList) = false := by kernel_rfl
  have q1 : (ByteArray.toList cSky == (ByteArray.mk #[112, 105, 110, 104, 111, 108, 101]).toList) = false := by kernel_rfl
  have q2 : (ByteArray.toList cSky == (ByteArray.mk #[115, 107, 121]).toList) = true := by kernel_rfl
  have q3 : (ByteArray.toList cSky == (ByteArray.mk #[102, 105, 108, 116, 101, 114]).toList) = false := by kernel_rfl
  subst hse; cases cam <;> cases fil <;> simp only [tr_ite, tr_opt, tr_ret, Option.bind_some, q0, q1, q2, q3, hp, Bool.not_true, Bool.and_true, Bool.and_false, Bool.or_false, if_true, if_false, Bool.false_eq_true]
theorem ref_sky_dup (s : ScT) (cam sky fil : Bool) (Ls : List ByteArray) (i : Nat) (hi : i < Ls.length) (hn : Ls.length ≤ 6001) (args : List ByteArray) (hl : args.length ≤ 6000) (hg : ref23_Words Ls[i] = some (cSky :: args)) (a0 : Int) (hk : nums 1 0 args = some [a0]) (hse : sky = true) :
    (ref24_Parse.t0 (ZS, (0, 0, 0), s, cam, sky, fil, Ls, (i : Int), ())).run = some (.ret, ZS, (9, 2, ((i + 1 : Nat) : Int)), s, cam, sky, fil, Ls, (i : Int), ()) := by
  have ha : args.length = 1 := (nums_len _ _ _ _ hk).symm
  unfold ref24_Parse.t0
  dsimp only
  have hW : W ((i : Int) + 1) = ((i + 1 : Nat) : Int) := by rw [W_id (by omega) (by omega)]; omega
  have h0 : lget (cSky :: args) 0 = some cSky := rfl
  have ht : ref24_Takes cSky = some (1, 1) := by kernel_rfl
  have hlen : (cSky :: args).length = 2 := by simp [ha]
  obtain ⟨r, h1, _, h2⟩ := Numbers_ref cSky args 1 hl
  have h2 := h2 _ hk
  subst h2
  have hp := put_sky s a0
  simp only [hW]
  rw [tr_yes (decide_eq_true (by omega)), tr_opt, lget_nat Ls hi, Option.bind_some, tr_opt, hg, Option.bind_some, tr_no (by rw [hlen]; rfl), tr_opt, h0, Option.bind_some, tr_opt, ht, Option.bind_some]
  dsimp only
  rw [tr_no (by rfl), tr_no (by rw [hlen]; rfl), tr_opt, h1, Option.bind_some]
  dsimp only
  have q0 : (ByteArray.toList cSky == (ByteArray.mk #[99, 97, 109, 101, 114, 97]).toList) = false := by kernel_rfl
  have q1 : (ByteArray.toList cSky == (ByteArray.mk #[112, 105, 110, 104, 111, 108, 101]).toList) = false := by kernel_rfl
  have q2 : (ByteArray.toList cSky == (ByteArray.mk #[115, 107, 121]).toList) = true := by kernel_rfl
  have q3 : (ByteArray.toList cSky == (ByteArray.mk #[102, 105, 108, 116, 101, 114]).toList) = false := by kernel_rfl
  subst hse; cases cam <;> cases fil <;> simp only [tr_ite, tr_opt, tr_ret, Option.bind_some, q0, q1, q2, q3, hp, Bool.not_true, Bool.and_true, Bool.and_false,  if_true, if_false, Bool.false_eq_true]
theorem put_filter (s : ScT) (a0 a1 : Int) : ref24_Put (s, cFil, [a0, a1]) = some (s.1, s.2.1, s.2.2.1, s.2.2.2.1, s.2.2.2.2.1, s.2.2.2.2.2.1, a0, a1) := by
  unfold ref24_Put ref24_Put.t
  dsimp only
  rw [tr_no (b := ByteArray.toList cFil == ByteArray.toList cMat) (by kernel_rfl), tr_no (b := ByteArray.toList cFil == ByteArray.toList cMatt) (by kernel_rfl), tr_no (b := ByteArray.toList cFil == ByteArray.toList cTri) (by kernel_rfl), tr_no (b := ByteArray.toList cFil == ByteArray.toList cLight) (by kernel_rfl), tr_no (b := ByteArray.toList cFil == ByteArray.toList cCell) (by kernel_rfl), tr_no (b := ByteArray.toList cFil == ByteArray.toList cSky) (by kernel_rfl), tr_yes (b := ByteArray.toList cFil == ByteArray.toList cFil) (by kernel_rfl)]
  rfl
theorem ref_filter (s : ScT) (cam sky fil : Bool) (Ls : List ByteArray) (i : Nat) (hi : i < Ls.length) (hn : Ls.length ≤ 6001) (args : List ByteArray) (hl : args.length ≤ 6000) (hg : ref23_Words Ls[i] = some (cFil :: args)) (a0 a1 : Int) (hk : nums 1 0 args = some [a0, a1]) (hse : fil = false) :
    (ref24_Parse.t0 (ZS, (0, 0, 0), s, cam, sky, fil, Ls, (i : Int), ())).run = some (.normal, ZS, (0, 0, 0), (s.1, s.2.1, s.2.2.1, s.2.2.2.1, s.2.2.2.2.1, s.2.2.2.2.2.1, a0, a1), cam, sky, true, Ls, ((i + 1 : Nat) : Int), ()) := by
  have ha : args.length = 2 := (nums_len _ _ _ _ hk).symm
  unfold ref24_Parse.t0
  dsimp only
  have hW : W ((i : Int) + 1) = ((i + 1 : Nat) : Int) := by rw [W_id (by omega) (by omega)]; omega
  have h0 : lget (cFil :: args) 0 = some cFil := rfl
  have ht : ref24_Takes cFil = some (2, 1) := by kernel_rfl
  have hlen : (cFil :: args).length = 3 := by simp [ha]
  obtain ⟨r, h1, _, h2⟩ := Numbers_ref cFil args 1 hl
  have h2 := h2 _ hk
  subst h2
  have hp := put_filter s a0 a1
  simp only [hW]
  rw [tr_yes (decide_eq_true (by omega)), tr_opt, lget_nat Ls hi, Option.bind_some, tr_opt, hg, Option.bind_some, tr_no (by rw [hlen]; rfl), tr_opt, h0, Option.bind_some, tr_opt, ht, Option.bind_some]
  dsimp only
  rw [tr_no (by rfl), tr_no (by rw [hlen]; rfl), tr_opt, h1, Option.bind_some]
  dsimp only
  have q0 : (ByteArray.toList cFil == (ByteArray.mk #[99, 97, 109, 101, 114, 97]).toList) = false := by kernel_rfl
  have q1 : (ByteArray.toList cFil == (ByteArray.mk #[112, 105, 110, 104, 111, 108, 101]).toList) = false := by kernel_rfl
  have q2 : (ByteArray.toList cFil == (ByteArray.mk #[115, 107, 121]).toList) = false := by kernel_rfl
  have q3 : (ByteArray.toList cFil == (ByteArray.mk #[102, 105, 108, 116, 101, 114]).toList) = true := by kernel_rfl
  subst hse; cases cam <;> cases sky <;> simp only [tr_ite, tr_opt, tr_ret, Option.bind_some, q0, q1, q2, q3, hp, Bool.not_true, Bool.and_true, Bool.and_false, Bool.or_false, if_true, if_false, Bool.false_eq_true]
theorem ref_filter_dup (s : ScT) (cam sky fil : Bool) (Ls : List ByteArray) (i : Nat) (hi : i < Ls.length) (hn : Ls.length ≤ 6001) (args : List ByteArray) (hl : args.length ≤ 6000) (hg : ref23_Words Ls[i] = some (cFil :: args)) (a0 a1 : Int) (hk : nums 1 0 args = some [a0, a1]) (hse : fil = true) :
    (ref24_Parse.t0 (ZS, (0, 0, 0), s, cam, sky, fil, Ls, (i : Int), ())).run = some (.ret, ZS, (9, 2, ((i + 1 : Nat) : Int)), s, cam, sky, fil, Ls, (i : Int), ()) := by
  have ha : args.length = 2 := (nums_len _ _ _ _ hk).symm
  unfold ref24_Parse.t0
  dsimp only
  have hW : W ((i : Int) + 1) = ((i + 1 : Nat) : Int) := by rw [W_id (by omega) (by omega)]; omega
  have h0 : lget (cFil :: args) 0 = some cFil := rfl
  have ht : ref24_Takes cFil = some (2, 1) := by kernel_rfl
  have hlen : (cFil :: args).length = 3 := by simp [ha]
  obtain ⟨r, h1, _, h2⟩ := Numbers_ref cFil args 1 hl
  have h2 := h2 _ hk
  subst h2
  have hp := put_filter s a0 a1
  simp only [hW]
  rw [tr_yes (decide_eq_true (by omega)), tr_opt, lget_nat Ls hi, Option.bind_some, tr_opt, hg, Option.bind_some, tr_no (by rw [hlen]; rfl), tr_opt, h0, Option.bind_some, tr_opt, ht, Option.bind_some]
  dsimp only
  rw [tr_no (by rfl), tr_no (by rw [hlen]; rfl), tr_opt, h1, Option.bind_some]
  dsimp only
  have q0 : (ByteArray.toList cFil == (ByteArray.mk #[99, 97, 109, 101, 114, 97]).toList) = false := by kernel_rfl
  have q1 : (ByteArray.toList cFil == (ByteArray.mk #[112, 105, 110, 104, 111, 108, 101]).toList) = false := by kernel_rfl
  have q2 : (ByteArray.toList cFil == (ByteArray.mk #[115, 107, 121]).toList) = false := by kernel_rfl
  have q3 : (ByteArray.toList cFil == (ByteArray.mk #[102, 105, 108, 116, 101, 114]).toList) = true := by kernel_rfl
  subst hse; cases cam <;> cases sky <;> simp only [tr_ite, tr_opt, tr_ret, Option.bind_some, q0, q1, q2, q3, hp, Bool.not_true, Bool.and_true, Bool.and_false,  if_true, if_false, Bool.false_eq_true]
theorem put_pinhole (s : ScT) (a0 a1 a2 a3 a4 a5 a6 a7 a8 a9 : Int) : ref24_Put (s, cPin, [a0, a1, a2, a3, a4, a5, a6, a7, a8, a9]) = some (s.1, s.2.1, s.2.2.1, s.2.2.2.1, s.2.2.2.2.1, ((a0, a1, a2), (a3, a4, a5), (a6, a7, a8), a9, 0, 1024), s.2.2.2.2.2.2.1, s.2.2.2.2.2.2.2) := by
  unfold ref24_Put ref24_Put.t
  dsimp only
  rw [tr_no (b := ByteArray.toList cPin == ByteArray.toList cMat) (by kernel_rfl), tr_no (b := ByteArray.toList cPin == ByteArray.toList cMatt) (by kernel_rfl), tr_no (b := ByteArray.toList cPin == ByteArray.toList cTri) (by kernel_rfl), tr_no (b := ByteArray.toList cPin == ByteArray.toList cLight) (by kernel_rfl), tr_no (b := ByteArray.toList cPin == ByteArray.toList cCell) (by kernel_rfl), tr_no (b := ByteArray.toList cPin == ByteArray.toList cSky) (by kernel_rfl), tr_no (b := ByteArray.toList cPin == ByteArray.toList cFil) (by kernel_rfl), tr_no (b := ByteArray.toList cPin == ByteArray.toList cCam) (by kernel_rfl), tr_yes (b := ByteArray.toList cPin == ByteArray.toList cPin) (by kernel_rfl)]
  rfl
theorem ref_pinhole (s : ScT) (cam sky fil : Bool) (Ls : List ByteArray) (i : Nat) (hi : i < Ls.length) (hn : Ls.length ≤ 6001) (args : List ByteArray) (hl : args.length ≤ 6000) (hg : ref23_Words Ls[i] = some (cPin :: args)) (a0 a1 a2 a3 a4 a5 a6 a7 a8 a9 : Int) (hk : nums 0 0 args = some [a0, a1, a2, a3, a4, a5, a6, a7, a8, a9]) (hse : cam = false) :
    (ref24_Parse.t0 (ZS, (0, 0, 0), s, cam, sky, fil, Ls, (i : Int), ())).run = some (.normal, ZS, (0, 0, 0), (s.1, s.2.1, s.2.2.1, s.2.2.2.1, s.2.2.2.2.1, ((a0, a1, a2), (a3, a4, a5), (a6, a7, a8), a9, 0, 1024), s.2.2.2.2.2.2.1, s.2.2.2.2.2.2.2), true, sky, fil, Ls, ((i + 1 : Nat) : Int), ()) := by
  have ha : args.length = 10 := (nums_len _ _ _ _ hk).symm
  unfold ref24_Parse.t0
  dsimp only
  have hW : W ((i : Int) + 1) = ((i + 1 : Nat) : Int) := by rw [W_id (by omega) (by omega)]; omega
  have h0 : lget (cPin :: args) 0 = some cPin := rfl
  have ht : ref24_Takes cPin = some (10, 0) := by kernel_rfl
  have hlen : (cPin :: args).length = 11 := by simp [ha]
  obtain ⟨r, h1, _, h2⟩ := Numbers_ref cPin args 0 hl
  have h2 := h2 _ hk
  subst h2
  have hp := put_pinhole s a0 a1 a2 a3 a4 a5 a6 a7 a8 a9
  simp only [hW]
  rw [tr_yes (decide_eq_true (by omega)), tr_opt, lget_nat Ls hi, Option.bind_some, tr_opt, hg, Option.bind_some, tr_no (by rw [hlen]; rfl), tr_opt, h0, Option.bind_some, tr_opt, ht, Option.bind_some]
  dsimp only
  rw [tr_no (by rfl), tr_no (by rw [hlen]; rfl), tr_opt, h1, Option.bind_some]
  dsimp only
  have q0 : (ByteArray.toList cPin == (ByteArray.mk #[99, 97, 109, 101, 114, 97]).toList) = false := by kernel_rfl
  have q1 : (ByteArray.toList cPin == (ByteArray.mk #[112, 105, 110, 104, 111, 108, 101]).toList) = true := by kernel_rfl
  have q2 : (ByteArray.toList cPin == (ByteArray.mk #[115, 107, 121]).toList) = false := by kernel_rfl
  have q3 : (ByteArray.toList cPin == (ByteArray.mk #[102, 105, 108, 116, 101, 114]).toList) = false := by kernel_rfl
  subst hse; cases sky <;> cases fil <;> simp only [tr_ite, tr_opt, tr_ret, Option.bind_some, q0, q1, q2, q3, hp, Bool.not_true, Bool.and_true, Bool.and_false, Bool.or_true, if_true, if_false, Bool.false_eq_true]
theorem ref_pinhole_dup (s : ScT) (cam sky fil : Bool) (Ls : List ByteArray) (i : Nat) (hi : i < Ls.length) (hn : Ls.length ≤ 6001) (args : List ByteArray) (hl : args.length ≤ 6000) (hg : ref23_Words Ls[i] = some (cPin :: args)) (a0 a1 a2 a3 a4 a5 a6 a7 a8 a9 : Int) (hk : nums 0 0 args = some [a0, a1, a2, a3, a4, a5, a6, a7, a8, a9]) (hse : cam = true) :
    (ref24_Parse.t0 (ZS, (0, 0, 0), s, cam, sky, fil, Ls, (i : Int), ())).run = some (.ret, ZS, (9, 2, ((i + 1 : Nat) : Int)), s, cam, sky, fil, Ls, (i : Int), ()) := by
  have ha : args.length = 10 := (nums_len _ _ _ _ hk).symm
  unfold ref24_Parse.t0
  dsimp only
  have hW : W ((i : Int) + 1) = ((i + 1 : Nat) : Int) := by rw [W_id (by omega) (by omega)]; omega
  have h0 : lget (cPin :: args) 0 = some cPin := rfl
  have ht : ref24_Takes cPin = some (10, 0) := by kernel_rfl
  have hlen : (cPin :: args).length = 11 := by simp [ha]
  obtain ⟨r, h1, _, h2⟩ := Numbers_ref cPin args 0 hl
  have h2 := h2 _ hk
  subst h2
  have hp := put_pinhole s a0 a1 a2 a3 a4 a5 a6 a7 a8 a9
  simp only [hW]
  rw [tr_yes (decide_eq_true (by omega)), tr_opt, lget_nat Ls hi, Option.bind_some, tr_opt, hg, Option.bind_some, tr_no (by rw [hlen]; rfl), tr_opt, h0, Option.bind_some, tr_opt, ht, Option.bind_some]
  dsimp only
  rw [tr_no (by rfl), tr_no (by rw [hlen]; rfl), tr_opt, h1, Option.bind_some]
  dsimp only
  have q0 : (ByteArray.toList cPin == (ByteArray.mk #[99, 97, 109, 101, 114, 97]).toList) = false := by kernel_rfl
  have q1 : (ByteArray.toList cPin == (ByteArray.mk #[112, 105, 110, 104, 111, 108, 101]).toList) = true := by kernel_rfl
  have q2 : (ByteArray.toList cPin == (ByteArray.mk #[115, 107, 121]).toList) = false := by kernel_rfl
  have q3 : (ByteArray.toList cPin == (ByteArray.mk #[102, 105, 108, 116, 101, 114]).toList) = false := by kernel_rfl
  subst hse; cases sky <;> cases fil <;> simp only [tr_ite, tr_opt, tr_ret, Option.bind_some, q0, q1, q2, q3, hp, Bool.not_true, Bool.and_true, Bool.and_false, Bool.or_true, if_true, if_false, Bool.false_eq_true]
theorem put_camera (s : ScT) (a0 a1 a2 a3 a4 a5 a6 a7 a8 a9 a10 a11 : Int) : ref24_Put (s, cCam, [a0, a1, a2, a3, a4, a5, a6, a7, a8, a9, a10, a11]) = some (s.1, s.2.1, s.2.2.1, s.2.2.2.1, s.2.2.2.2.1, ((a0, a1, a2), (a3, a4, a5), (a6, a7, a8), a9, a10, a11), s.2.2.2.2.2.2.1, s.2.2.2.2.2.2.2) := by
  unfold ref24_Put ref24_Put.t
  dsimp only
  rw [tr_no (b := ByteArray.toList cCam == ByteArray.toList cMat) (by kernel_rfl), tr_no (b := ByteArray.toList cCam == ByteArray.toList cMatt) (by kernel_rfl), tr_no (b := ByteArray.toList cCam == ByteArray.toList cTri) (by kernel_rfl), tr_no (b := ByteArray.toList cCam == ByteArray.toList cLight) (by kernel_rfl), tr_no (b := ByteArray.toList cCam == ByteArray.toList cCell) (by kernel_rfl), tr_no (b := ByteArray.toList cCam == ByteArray.toList cSky) (by kernel_rfl), tr_no (b := ByteArray.toList cCam == ByteArray.toList cFil) (by kernel_rfl), tr_yes (b := ByteArray.toList cCam == ByteArray.toList cCam) (by kernel_rfl)]
  rfl
theorem ref_camera (s : ScT) (cam sky fil : Bool) (Ls : List ByteArray) (i : Nat) (hi : i < Ls.length) (hn : Ls.length ≤ 6001) (args : List ByteArray) (hl : args.length ≤ 6000) (hg : ref23_Words Ls[i] = some (cCam :: args)) (a0 a1 a2 a3 a4 a5 a6 a7 a8 a9 a10 a11 : Int) (hk : nums 0 0 args = some [a0, a1, a2, a3, a4, a5, a6, a7, a8, a9, a10, a11]) (hse : cam = false) :
    (ref24_Parse.t0 (ZS, (0, 0, 0), s, cam, sky, fil, Ls, (i : Int), ())).run = some (.normal, ZS, (0, 0, 0), (s.1, s.2.1, s.2.2.1, s.2.2.2.1, s.2.2.2.2.1, ((a0, a1, a2), (a3, a4, a5), (a6, a7, a8), a9, a10, a11), s.2.2.2.2.2.2.1, s.2.2.2.2.2.2.2), true, sky, fil, Ls, ((i + 1 : Nat) : Int), ()) := by
  have ha : args.length = 12 := (nums_len _ _ _ _ hk).symm
  unfold ref24_Parse.t0
  dsimp only
  have hW : W ((i : Int) + 1) = ((i + 1 : Nat) : Int) := by rw [W_id (by omega) (by omega)]; omega
  have h0 : lget (cCam :: args) 0 = some cCam := rfl
  have ht : ref24_Takes cCam = some (12, 0) := by kernel_rfl
  have hlen : (cCam :: args).length = 13 := by simp [ha]
  obtain ⟨r, h1, _, h2⟩ := Numbers_ref cCam args 0 hl
  have h2 := h2 _ hk
  subst h2
  have hp := put_camera s a0 a1 a2 a3 a4 a5 a6 a7 a8 a9 a10 a11
  simp only [hW]
  rw [tr_yes (decide_eq_true (by omega)), tr_opt, lget_nat Ls hi, Option.bind_some, tr_opt, hg, Option.bind_some, tr_no (by rw [hlen]; rfl), tr_opt, h0, Option.bind_some, tr_opt, ht, Option.bind_some]
  dsimp only
  rw [tr_no (by rfl), tr_no (by rw [hlen]; rfl), tr_opt, h1, Option.bind_some]
  dsimp only
  have q0 : (ByteArray.toList cCam == (ByteArray.mk #[99, 97, 109, 101, 114, 97]).toList) = true := by kernel_rfl
  have q1 : (ByteArray.toList cCam == (ByteArray.mk #[112, 105, 110, 104, 111, 108, 101]).toList) = false := by kernel_rfl
  have q2 : (ByteArray.toList cCam == (ByteArray.mk #[115, 107, 121]).toList) = false := by kernel_rfl
  have q3 : (ByteArray.toList cCam == (ByteArray.mk #[102, 105, 108, 116, 101, 114]).toList) = false := by kernel_rfl
  subst hse; cases sky <;> cases fil <;> simp only [tr_ite, tr_opt, tr_ret, Option.bind_some, q0, q1, q2, q3, hp, Bool.not_true, Bool.and_true, Bool.and_false, Bool.or_false, if_true, if_false, Bool.false_eq_true]
theorem ref_camera_dup (s : ScT) (cam sky fil : Bool) (Ls : List ByteArray) (i : Nat) (hi : i < Ls.length) (hn : Ls.length ≤ 6001) (args : List ByteArray) (hl : args.length ≤ 6000) (hg : ref23_Words Ls[i] = some (cCam :: args)) (a0 a1 a2 a3 a4 a5 a6 a7 a8 a9 a10 a11 : Int) (hk : nums 0 0 args = some [a0, a1, a2, a3, a4, a5, a6, a7, a8, a9, a10, a11]) (hse : cam = true) :
    (ref24_Parse.t0 (ZS, (0, 0, 0), s, cam, sky, fil, Ls, (i : Int), ())).run = some (.ret, ZS, (9, 2, ((i + 1 : Nat) : Int)), s, cam, sky, fil, Ls, (i : Int), ()) := by
  have ha : args.length = 12 := (nums_len _ _ _ _ hk).symm
  unfold ref24_Parse.t0
  dsimp only
  have hW : W ((i : Int) + 1) = ((i + 1 : Nat) : Int) := by rw [W_id (by omega) (by omega)]; omega
  have h0 : lget (cCam :: args) 0 = some cCam := rfl
  have ht : ref24_Takes cCam = some (12, 0) := by kernel_rfl
  have hlen : (cCam :: args).length = 13 := by simp [ha]
  obtain ⟨r, h1, _, h2⟩ := Numbers_ref cCam args 0 hl
  have h2 := h2 _ hk
  subst h2
  have hp := put_camera s a0 a1 a2 a3 a4 a5 a6 a7 a8 a9 a10 a11
  simp only [hW]
  rw [tr_yes (decide_eq_true (by omega)), tr_opt, lget_nat Ls hi, Option.bind_some, tr_opt, hg, Option.bind_some, tr_no (by rw [hlen]; rfl), tr_opt, h0, Option.bind_some, tr_opt, ht, Option.bind_some]
  dsimp only
  rw [tr_no (by rfl), tr_no (by rw [hlen]; rfl), tr_opt, h1, Option.bind_some]
  dsimp only
  have q0 : (ByteArray.toList cCam == (ByteArray.mk #[99, 97, 109, 101, 114, 97]).toList) = true := by kernel_rfl
  have q1 : (ByteArray.toList cCam == (ByteArray.mk #[112, 105, 110, 104, 111, 108, 101]).toList) = false := by kernel_rfl
  have q2 : (ByteArray.toList cCam == (ByteArray.mk #[115, 107, 121]).toList) = false := by kernel_rfl
  have q3 : (ByteArray.toList cCam == (ByteArray.mk #[102, 105, 108, 116, 101, 114]).toList) = false := by kernel_rfl
  subst hse; cases sky <;> cases fil <;> simp only [tr_ite, tr_opt, tr_ret, Option.bind_some, q0, q1, q2, q3, hp, Bool.not_true, Bool.and_true, Bool.and_false, Bool.or_false, if_true, if_false, Bool.false_eq_true]
end Go.Proofs.Pen

namespace Go.Proofs.Pen
open Go Go.Proofs

section
variable (s : ScT) (seen : List (ByteArray × Bool)) (n0 : Int) (w0 : List ByteArray) (L : List (Int × List ByteArray)) (i : Nat) (hi : i < L.length) (hn : L.length ≤ 6001) (num : Int) (w : ByteArray) (args : List ByteArray) (hg : L[i] = (num, w :: args))
include hi hg

theorem code_line (ht : parse_takes w = some (0, 0, false)) :
    ∃ y, (parse_Parse.t0 (ZS, .nil, (s.1, s.2.1, s.2.2.1, s.2.2.2.1, s.2.2.2.2.1, s.2.2.2.2.2.1, s.2.2.2.2.2.2.1, s.2.2.2.2.2.2.2, seen, n0, w0, ()), L, (L.length : Int), (i : Int), ())).run = some (.ret, ZS, mkErr (some (9, 15, num)), y) := by
  unfold parse_Parse.t0
  dsimp only
  have hL : lget L (i : Int) = some (num, w :: args) := by rw [lget_nat L hi, hg]
  have h0 : lget (w :: args) 0 = some w := rfl
  rw [tr_yes (decide_eq_true (by omega)), tr_opt, hL, Option.bind_some, tr_opt, h0, Option.bind_some, tr_opt, ht, Option.bind_some]
  dsimp only
  rw [tr_yes (b := !false) rfl, tr_opt, New_eq (by decide), Option.bind_some, tr_opt, Wrap_eq rfl (by decide), Option.bind_some, tr_yes (by rfl), tr_ret]
  exact ⟨_, rfl⟩

theorem code_size {n wh : Int} (ht : parse_takes w = some (n, wh, true)) (hl : args.length ≤ 6000) (ha : (args.length : Int) ≠ n) :
    ∃ y, (parse_Parse.t0 (ZS, .nil, (s.1, s.2.1, s.2.2.1, s.2.2.2.1, s.2.2.2.2.1, s.2.2.2.2.2.1, s.2.2.2.2.2.2.1, s.2.2.2.2.2.2.2, seen, n0, w0, ()), L, (L.length : Int), (i : Int), ())).run = some (.ret, ZS, mkErr (some (9, 14, num)), y) := by
  unfold parse_Parse.t0
  dsimp only
  have hL : lget L (i : Int) = some (num, w :: args) := by rw [lget_nat L hi, hg]
  have h0 : lget (w :: args) 0 = some w := rfl
  have hlen : (w :: args).length = args.length + 1 := by simp
  have hdrop : List.take ((((w :: args).length : Nat) : Int).toNat - Int.toNat 1) (List.drop (Int.toNat 1) (w :: args)) = args := by
    rw [Int.toNat_natCast, hlen]
    show List.take (args.length + 1 - 1) args = args
    exact List.take_of_length_le (by omega)
  rw [tr_yes (decide_eq_true (by omega)), tr_opt, hL, Option.bind_some, tr_opt, h0, Option.bind_some, tr_opt, ht, Option.bind_some]
  dsimp only
  rw [tr_no (b := !true) rfl, tr_yes (by rw [hlen]; simp; omega), hdrop, tr_yes (by simpa using ha), tr_opt, New_eq (by decide), Option.bind_some, tr_opt, Wrap_eq rfl (by decide), Option.bind_some, tr_yes (by rfl), tr_yes (by rfl), tr_ret]
  exact ⟨_, rfl⟩

theorem code_form {n : Nat} {wh : Int} (ht : parse_takes w = some ((n : Int), wh, true)) (hl : args.length ≤ 6000) (ha : args.length = n) (hk : nums wh 0 args = none) :
    ∃ y, (parse_Parse.t0 (ZS, .nil, (s.1, s.2.1, s.2.2.1, s.2.2.2.1, s.2.2.2.2.1, s.2.2.2.2.2.1, s.2.2.2.2.2.2.1, s.2.2.2.2.2.2.2, seen, n0, w0, ()), L, (L.length : Int), (i : Int), ())).run = some (.ret, ZS, mkErr (some (9, 6, num)), y) := by
  unfold parse_Parse.t0
  dsimp only
  have hL : lget L (i : Int) = some (num, w :: args) := by rw [lget_nat L hi, hg]
  have h0 : lget (w :: args) 0 = some w := rfl
  have hlen : (w :: args).length = args.length + 1 := by simp
  have hdrop : List.take ((((w :: args).length : Nat) : Int).toNat - Int.toNat 1) (List.drop (Int.toNat 1) (w :: args)) = args := by
    rw [Int.toNat_natCast, hlen]
    show List.take (args.length + 1 - 1) args = args
    exact List.take_of_length_le (by omega)
  rw [tr_yes (decide_eq_true (by omega)), tr_opt, hL, Option.bind_some, tr_opt, h0, Option.bind_some, tr_opt, ht, Option.bind_some]
  dsimp only
  rw [tr_no (b := !true) rfl, tr_yes (by rw [hlen]; simp; omega), hdrop, tr_no (by rw [ha]; simp)]
  simp only [List.take_length]
  have key := num_loop ZS (s.1, s.2.1, s.2.2.1, s.2.2.2.1, s.2.2.2.2.1, s.2.2.2.2.2.1, s.2.2.2.2.2.2.1, s.2.2.2.2.2.2.2, seen, num, w :: args, ()) wh args [] [] rounds (by simp; omega) (by simp) (rounds_gt (by omega))
  rw [show ([] : List ByteArray).length = 0 from rfl, hk] at key
  obtain ⟨y, key⟩ := key
  simp only [Nat.zero_add, List.nil_append] at key
  have key : numLoop.l0 (ZS, (s.1, s.2.1, s.2.2.1, s.2.2.2.1, s.2.2.2.2.1, s.2.2.2.2.2.1, s.2.2.2.2.2.2.1, s.2.2.2.2.2.2.2, seen, num, w :: args, ()), wh, [], .nil, [], args, (args.length : Int), 0, ()) = _ := key
  rw [tr_opt, key, Option.bind_some]
  dsimp only
  rw [tr_no (b := exEq Ex.ret (Ex.exit 0)) rfl, tr_yes (b := exEq Ex.ret Ex.ret) rfl, tr_yes (by rfl), tr_yes (by rfl), tr_ret]
  exact ⟨_, rfl⟩
end

section
variable (s : ScT) (cam sky fil : Bool) (Ls : List ByteArray) (i : Nat) (hi : i < Ls.length) (hn : Ls.length ≤ 6001) (w : ByteArray) (args : List ByteArray) (hl : args.length ≤ 6000) (hg : ref23_Words Ls[i] = some (w :: args))
include hi hn hl hg

theorem ref_line (ht : ref24_Takes w = some (-1, 0)) : ∃ y, (ref24_Parse.t0 (ZS, (0, 0, 0), s, cam, sky, fil, Ls, (i : Int), ())).run = some (.ret, ZS, (9, 15, ((i + 1 : Nat) : Int)), y) := by
  unfold ref24_Parse.t0
  dsimp only
  have hW : W ((i : Int) + 1) = ((i + 1 : Nat) : Int) := by rw [W_id (by omega) (by omega)]; omega
  have h0 : lget (w :: args) 0 = some w := rfl
  have hlen : (w :: args).length = args.length + 1 := by simp
  rw [tr_yes (decide_eq_true (by omega)), tr_opt, lget_nat Ls hi, Option.bind_some, tr_opt, hg, Option.bind_some, tr_no (by rw [hlen]; simp; omega), tr_opt, h0, Option.bind_some, tr_opt, ht, Option.bind_some]
  dsimp only
  rw [tr_yes (by rfl), tr_ret, hW]
  exact ⟨_, rfl⟩

theorem ref_size {n wh : Int} (ht : ref24_Takes w = some (n, wh)) (h0n : 0 ≤ n) (ha : (args.length : Int) ≠ n) : ∃ y, (ref24_Parse.t0 (ZS, (0, 0, 0), s, cam, sky, fil, Ls, (i : Int), ())).run = some (.ret, ZS, (9, 14, ((i + 1 : Nat) : Int)), y) := by
  unfold ref24_Parse.t0
  dsimp only
  have hW : W ((i : Int) + 1) = ((i + 1 : Nat) : Int) := by rw [W_id (by omega) (by omega)]; omega
  have h0 : lget (w :: args) 0 = some w := rfl
  have hlen : (w :: args).length = args.length + 1 := by simp
  have hW2 : W ((((w :: args).length : Nat) : Int) - 1) = (args.length : Int) := by rw [hlen, W_id (by omega) (by omega)]; omega
  rw [tr_yes (decide_eq_true (by omega)), tr_opt, lget_nat Ls hi, Option.bind_some, tr_opt, hg, Option.bind_some, tr_no (by rw [hlen]; simp; omega), tr_opt, h0, Option.bind_some, tr_opt, ht, Option.bind_some]
  dsimp only
  rw [tr_no (decide_eq_false (by omega)), hW2, tr_yes (by simpa using ha), tr_ret, hW]
  exact ⟨_, rfl⟩

theorem ref_form {n : Nat} {wh : Int} (ht : ref24_Takes w = some ((n : Int), wh)) (ha : args.length = n) (hk : nums wh 0 args = none) : ∃ y, (ref24_Parse.t0 (ZS, (0, 0, 0), s, cam, sky, fil, Ls, (i : Int), ())).run = some (.ret, ZS, (9, 6, ((i + 1 : Nat) : Int)), y) := by
  unfold ref24_Parse.t0
  dsimp only
  have hW : W ((i : Int) + 1) = ((i + 1 : Nat) : Int) := by rw [W_id (by omega) (by omega)]; omega
  have h0 : lget (w :: args) 0 = some w := rfl
  have hlen : (w :: args).length = args.length + 1 := by simp
  have hW2 : W ((((w :: args).length : Nat) : Int) - 1) = (args.length : Int) := by rw [hlen, W_id (by omega) (by omega)]; omega
  obtain ⟨r, h1, h2, _⟩ := Numbers_ref w args wh hl
  have h2 := h2 hk
  rw [tr_yes (decide_eq_true (by omega)), tr_opt, lget_nat Ls hi, Option.bind_some, tr_opt, hg, Option.bind_some, tr_no (by rw [hlen]; simp; omega), tr_opt, h0, Option.bind_some, tr_opt, ht, Option.bind_some]
  dsimp only
  rw [tr_no (decide_eq_false (by omega)), hW2, tr_no (by rw [ha]; simp), tr_opt, h1, Option.bind_some, tr_yes (by rw [h2]; rfl), tr_ret, hW]
  exact ⟨_, rfl⟩
end
end Go.Proofs.Pen
