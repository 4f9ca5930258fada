/- A part of the proof that the law HitTrees is true of every input: models of the functions that the law reaches, and what holds of them. -/
import Derived.Test.YtncgifjccpngfaaGreatPenKit0
import Derived.Test.YtncgifjccpngfaaGreatPenKit1
import Derived.Test.YtncgifjccpngfaaGreatPenKit2
import Derived.Test.YtncgifjccpngfaaGreatPenKit3
import Derived.Test.YtncgifjccpngfaaGreatPenHitTrees4
import Derived.Test.YtncgifjccpngfaaGreatPenKit5
import Derived.Test.YtncgifjccpngfaaGreatPenHitTrees6
namespace Go.Proofs.Pen
open Go Go.Proofs
noncomputable def eachFirst.deeps : Deeps := { D := [126, 127, 68], C := [], frz := false, S := fun _ _ => noS }
theorem eachFirst.deepsOk : LoopsOK Tryz.prog eachFirst.deeps.S := (loops_none _)
def eachFirst.L2 : List (Nat × Lay) := [(9000, .bdead 0), (9001, .blk 1 THit), (9002, .blk 2 THit), (9003, .blk 3 (.clo 123 (.pair (.ptr (.sl TTri)) (.pair (.ptr (.sl TI)) (.ptr TBox))))), (0, .val (.ptr TTree)), (2, .clo 68 [3, 2]), (7, .obx [.dat (.ptr TTree), .dat TBox, .own TI]), (8, .val .flt), (9, .val .bool), (10, .val TI), (11, .box TNode), (13, .val TI)]
noncomputable def eachFirst.t2 (x : (Int × Option Nat × Option Nat × Option Nat) × (Int × Option Nat × Option Nat × Option Nat) × ((List ((Option Nat × Option Nat × Option Nat) × (Option Nat × Option Nat × Option Nat) × Option Nat × Option Nat × Option Nat)) × List (Int) × (Option Nat × Option Nat × Option Nat) × Option Nat × Option Nat × Option Nat) × ((List (((Option Nat × Option Nat × Option Nat) × Option Nat × Option Nat × Option Nat) × Int × Int × Int × Int)) × List (Int)) × (((List (((Option Nat × Option Nat × Option Nat) × Option Nat × Option Nat × Option Nat) × Int × Int × Int × Int)) × List (Int)) × ((Option Nat × Option Nat × Option Nat) × Option Nat × Option Nat × Option Nat) × List Int × Unit) × (Option Nat) × Bool × Int × (((Option Nat × Option Nat × Option Nat) × Option Nat × Option Nat × Option Nat) × Int × Int × Int × Int) × Int × Unit) : T (Ex × (Int × Option Nat × Option Nat × Option Nat) × (Int × Option Nat × Option Nat × Option Nat) × ((List ((Option Nat × Option Nat × Option Nat) × (Option Nat × Option Nat × Option Nat) × Option Nat × Option Nat × Option Nat)) × List (Int) × (Option Nat × Option Nat × Option Nat) × Option Nat × Option Nat × Option Nat) × ((List (((Option Nat × Option Nat × Option Nat) × Option Nat × Option Nat × Option Nat) × Int × Int × Int × Int)) × List (Int)) × (((List (((Option Nat × Option Nat × Option Nat) × Option Nat × Option Nat × Option Nat) × Int × Int × Int × Int)) × List (Int)) × ((Option Nat × Option Nat × Option Nat) × Option Nat × Option Nat × Option Nat) × List Int × Unit) × (Option Nat) × Bool × Int × (((Option Nat × Option Nat × Option Nat) × Option Nat × Option Nat × Option Nat) × Int × Int × Int × Int) × Int × Unit) := T.ite (decide (x.2.2.2.2.2.2.2.2.2.1 < x.2.2.2.2.2.2.2.2.1.2.2.2.2)) (T.opt (bvh_Tree_Tri (x.2.2.2.1, x.2.2.2.2.2.2.2.2.2.1)) fun y => T.opt (hit_asker_1 (y, x.2.2.1)) fun y => T.opt (tri_Better (y, x.2.1)) fun y_1 => T.ite (!y_1) (T.ret (Ex.normal, x.1, x.2.1, x.2.2.1, x.2.2.2.1, (x.2.2.2.2.1.1, x.2.2.2.2.1.2.1, List.take x.2.2.2.2.1.2.2.1.length x.2.2.2.2.1.2.2.1, ()), x.2.2.2.2.2.1, x.2.2.2.2.2.2.1, x.2.2.2.2.2.2.2.1, x.2.2.2.2.2.2.2.2.1, W (x.2.2.2.2.2.2.2.2.2.1 + (1 : Int)), ())) (T.ret (Ex.normal, x.1, y, x.2.2.1, x.2.2.2.1, (x.2.2.2.2.1.1, x.2.2.2.2.1.2.1, List.take x.2.2.2.2.1.2.2.1.length x.2.2.2.2.1.2.2.1, ()), y.2.1, true, x.2.2.2.2.2.2.2.1, x.2.2.2.2.2.2.2.2.1, W (x.2.2.2.2.2.2.2.2.2.1 + (1 : Int)), ()))) (T.ret (Ex.exit (2 : Nat), x.1, x.2.1, x.2.2.1, x.2.2.2.1, (x.2.2.2.2.1.1, x.2.2.2.2.1.2.1, List.take x.2.2.2.2.1.2.2.1.length x.2.2.2.2.1.2.2.1, ()), x.2.2.2.2.2.1, x.2.2.2.2.2.2.1, x.2.2.2.2.2.2.2.1, x.2.2.2.2.2.2.2.2.1, x.2.2.2.2.2.2.2.2.2.1, ()))
noncomputable def eachFirst.l2 (x : (Int × Option Nat × Option Nat × Option Nat) × (Int × Option Nat × Option Nat × Option Nat) × ((List ((Option Nat × Option Nat × Option Nat) × (Option Nat × Option Nat × Option Nat) × Option Nat × Option Nat × Option Nat)) × List (Int) × (Option Nat × Option Nat × Option Nat) × Option Nat × Option Nat × Option Nat) × ((List (((Option Nat × Option Nat × Option Nat) × Option Nat × Option Nat × Option Nat) × Int × Int × Int × Int)) × List (Int)) × (((List (((Option Nat × Option Nat × Option Nat) × Option Nat × Option Nat × Option Nat) × Int × Int × Int × Int)) × List (Int)) × ((Option Nat × Option Nat × Option Nat) × Option Nat × Option Nat × Option Nat) × List Int × Unit) × (Option Nat) × Bool × Int × (((Option Nat × Option Nat × Option Nat) × Option Nat × Option Nat × Option Nat) × Int × Int × Int × Int) × Int × Unit) : Option (Ex × (Int × Option Nat × Option Nat × Option Nat) × (Int × Option Nat × Option Nat × Option Nat) × ((List ((Option Nat × Option Nat × Option Nat) × (Option Nat × Option Nat × Option Nat) × Option Nat × Option Nat × Option Nat)) × List (Int) × (Option Nat × Option Nat × Option Nat) × Option Nat × Option Nat × Option Nat) × ((List (((Option Nat × Option Nat × Option Nat) × Option Nat × Option Nat × Option Nat) × Int × Int × Int × Int)) × List (Int)) × (((List (((Option Nat × Option Nat × Option Nat) × Option Nat × Option Nat × Option Nat) × Int × Int × Int × Int)) × List (Int)) × ((Option Nat × Option Nat × Option Nat) × Option Nat × Option Nat × Option Nat) × List Int × Unit) × (Option Nat) × Bool × Int × (((Option Nat × Option Nat × Option Nat) × Option Nat × Option Nat × Option Nat) × Int × Int × Int × Int) × Int × Unit) := (iterT eachFirst.t2 rounds x).run
theorem eachFirst.k2 : bodies 2 (lp Tryz.f67 [0]) = [.loop (loopIn 2 (lp Tryz.f67 [0]))] ∧ WP Tryz.prog 4 (.block 2 (.loop (loopIn 2 (lp Tryz.f67 [0])))) (loopS eachFirst.L2 71 2 [.exit 2] eachFirst.l2) :=
  loop_treeN 4 (L := eachFirst.L2) (F := (dp Tryz.prog (ext (ext (ext (ext (ext (ext (ext Xs 51 bvh_Tree_Tri.q) 13 bvh_Tree_Node.q) 176 box_Through.q) 69 tri_Better.q) 123 hit_asker_1.q) 65 hit_none.q) 212 box_Through_1.q) eachFirst.deeps 100 8)) (D := (inL eachFirst.deeps.D)) (tab := []) (t := eachFirst.t2) mixed (dp_ok mixed (quiet_ext (quiet_ext (quiet_ext (quiet_ext (quiet_ext (quiet_ext (quiet_ext Xok bvh_Tree_Tri.ok) bvh_Tree_Node.ok) box_Through.ok) tri_Better.ok) hit_asker_1.ok) hit_none.ok) box_Through_1.ok) eachFirst.deepsOk 100 8).1 (dp_ok mixed (quiet_ext (quiet_ext (quiet_ext (quiet_ext (quiet_ext (quiet_ext (quiet_ext Xok bvh_Tree_Tri.ok) bvh_Tree_Node.ok) box_Through.ok) tri_Better.ok) hit_asker_1.ok) hit_none.ok) box_Through_1.ok) eachFirst.deepsOk 100 8).2 (fun _ => rfl) (by kernel_rfl) (by kernel_rfl) trivial (fun x => by kernel_rfl)
def eachFirst.L0 : List (Nat × Lay) := [(9000, .bdead 0), (9001, .blk 1 THit), (9002, .blk 2 THit), (9003, .blk 3 (.clo 123 (.pair (.ptr (.sl TTri)) (.pair (.ptr (.sl TI)) (.ptr TBox))))), (0, .val (.ptr TTree)), (2, .clo 68 [3, 2]), (7, .obx [.dat (.ptr TTree), .dat TBox, .own TI]), (8, .val .flt), (9, .val .bool), (10, .val TI)]
noncomputable def eachFirst.t0 (x : (Int × Option Nat × Option Nat × Option Nat) × (Int × Option Nat × Option Nat × Option Nat) × ((List ((Option Nat × Option Nat × Option Nat) × (Option Nat × Option Nat × Option Nat) × Option Nat × Option Nat × Option Nat)) × List (Int) × (Option Nat × Option Nat × Option Nat) × Option Nat × Option Nat × Option Nat) × ((List (((Option Nat × Option Nat × Option Nat) × Option Nat × Option Nat × Option Nat) × Int × Int × Int × Int)) × List (Int)) × (((List (((Option Nat × Option Nat × Option Nat) × Option Nat × Option Nat × Option Nat) × Int × Int × Int × Int)) × List (Int)) × ((Option Nat × Option Nat × Option Nat) × Option Nat × Option Nat × Option Nat) × List Int × Unit) × (Option Nat) × Bool × Int × Unit) : T (Ex × (Int × Option Nat × Option Nat × Option Nat) × (Int × Option Nat × Option Nat × Option Nat) × ((List ((Option Nat × Option Nat × Option Nat) × (Option Nat × Option Nat × Option Nat) × Option Nat × Option Nat × Option Nat)) × List (Int) × (Option Nat × Option Nat × Option Nat) × Option Nat × Option Nat × Option Nat) × ((List (((Option Nat × Option Nat × Option Nat) × Option Nat × Option Nat × Option Nat) × Int × Int × Int × Int)) × List (Int)) × (((List (((Option Nat × Option Nat × Option Nat) × Option Nat × Option Nat × Option Nat) × Int × Int × Int × Int)) × List (Int)) × ((Option Nat × Option Nat × Option Nat) × Option Nat × Option Nat × Option Nat) × List Int × Unit) × (Option Nat) × Bool × Int × Unit) := T.ite (decide ((↑x.2.2.2.2.1.2.2.1.length : Int) > (0 : Int))) (T.ite (decide ((0 : Int) ≤ W ((↑x.2.2.2.2.1.2.2.1.length : Int) - (1 : Int))) && decide (W ((↑x.2.2.2.2.1.2.2.1.length : Int) - (1 : Int)) < (↑x.2.2.2.2.1.2.2.1.length : Int))) (T.opt x.2.2.2.2.1.2.2.1[(0 : Nat) + (W ((↑x.2.2.2.2.1.2.2.1.length : Int) - (1 : Int))).toNat]? fun y => T.ite (decide ((0 : Int) ≤ (0 : Int)) && decide ((0 : Int) ≤ W ((↑x.2.2.2.2.1.2.2.1.length : Int) - (1 : Int))) && decide (W ((↑x.2.2.2.2.1.2.2.1.length : Int) - (1 : Int)) ≤ (↑x.2.2.2.2.1.2.2.1.length : Int))) (T.opt (bvh_Tree_Node (x.2.2.2.2.1.1, y)) fun y => T.opt (box_Through (y.1.1, x.2.2.2.2.1.2.1)) fun y_1 => T.ite (x.2.2.2.2.2.2.1 && ford y_1.fst x.2.2.2.2.2.1 == some Ordering.gt) (T.ret (Ex.normal, x.1, x.2.1, x.2.2.1, x.2.2.2.1, (x.2.2.2.2.1.1, x.2.2.2.2.1.2.1, List.take ((W ((↑x.2.2.2.2.1.2.2.1.length : Int) - (1 : Int))).toNat - Int.toNat (0 : Int)) x.2.2.2.2.1.2.2.1, ()), x.2.2.2.2.2.1, x.2.2.2.2.2.2.1, W (x.2.2.2.2.2.2.2.1 + (1 : Int)), ())) (T.opt (eachFirst.l2 (x.1, x.2.1, x.2.2.1, x.2.2.2.1, (x.2.2.2.2.1.1, x.2.2.2.2.1.2.1, List.take ((W ((↑x.2.2.2.2.1.2.2.1.length : Int) - (1 : Int))).toNat - Int.toNat (0 : Int)) x.2.2.2.2.1.2.2.1, ()), x.2.2.2.2.2.1, x.2.2.2.2.2.2.1, W (x.2.2.2.2.2.2.2.1 + (1 : Int)), y.1, y.1.2.2.2.1, ())) fun y => T.ite (exEq y.1 (Ex.exit (2 : Nat))) (T.ite (decide (y.2.2.2.2.2.2.2.2.2.1.2.1 > (0 : Int))) (T.opt (bvh_Tree_Node (y.2.2.2.2.2.1.1, y.2.2.2.2.2.2.2.2.2.1.2.2.1)) fun y_2 => T.ite (!y_2.snd) (T.opt (bvh_Tree_Node (y.2.2.2.2.2.1.1, y.2.2.2.2.2.2.2.2.2.1.2.1)) fun y_3 => T.ite (!y_3.snd) (T.ret (Ex.normal, y.2.1, y.2.2.1, y.2.2.2.1, y.2.2.2.2.1, (y.2.2.2.2.2.1.1, y.2.2.2.2.2.1.2.1, List.take y.2.2.2.2.2.1.2.2.1.length y.2.2.2.2.2.1.2.2.1, ()), y.2.2.2.2.2.2.1, y.2.2.2.2.2.2.2.1, y.2.2.2.2.2.2.2.2.1, ())) (T.opt (box_Through (y_3.fst.fst, y.2.2.2.2.2.1.2.1)) fun y_4 => T.ite y_4.snd.snd (T.ite (decide ((y.2.2.2.2.2.1.2.2.1.length + (1 : Nat)) * nat_lit 8 ≤ most)) (T.ret (Ex.normal, y.2.1, y.2.2.1, y.2.2.2.1, y.2.2.2.2.1, (y.2.2.2.2.2.1.1, y.2.2.2.2.2.1.2.1, List.take (y.2.2.2.2.2.1.2.2.1.length + (1 : Nat)) (List.take y.2.2.2.2.2.1.2.2.1.length y.2.2.2.2.2.1.2.2.1 ++ [y.2.2.2.2.2.2.2.2.2.1.2.1]), ()), y.2.2.2.2.2.2.1, y.2.2.2.2.2.2.2.1, y.2.2.2.2.2.2.2.2.1, ())) T.fail) (T.ret (Ex.normal, y.2.1, y.2.2.1, y.2.2.2.1, y.2.2.2.2.1, (y.2.2.2.2.2.1.1, y.2.2.2.2.2.1.2.1, List.take y.2.2.2.2.2.1.2.2.1.length y.2.2.2.2.2.1.2.2.1, ()), y.2.2.2.2.2.2.1, y.2.2.2.2.2.2.2.1, y.2.2.2.2.2.2.2.2.1, ())))) (T.opt (box_Through (y_2.fst.fst, y.2.2.2.2.2.1.2.1)) fun y_3 => T.ite y_3.snd.snd (T.ite (decide ((y.2.2.2.2.2.1.2.2.1.length + (1 : Nat)) * nat_lit 8 ≤ most)) (T.opt (bvh_Tree_Node (y.2.2.2.2.2.1.1, y.2.2.2.2.2.2.2.2.2.1.2.1)) fun y_4 => T.ite (!y_4.snd) (T.ret (Ex.normal, y.2.1, y.2.2.1, y.2.2.2.1, y.2.2.2.2.1, (y.2.2.2.2.2.1.1, y.2.2.2.2.2.1.2.1, List.take (y.2.2.2.2.2.1.2.2.1.length + (1 : Nat)) (List.take y.2.2.2.2.2.1.2.2.1.length y.2.2.2.2.2.1.2.2.1 ++ [y.2.2.2.2.2.2.2.2.2.1.2.2.1]), ()), y.2.2.2.2.2.2.1, y.2.2.2.2.2.2.2.1, y.2.2.2.2.2.2.2.2.1, ())) (T.opt (box_Through (y_4.fst.fst, y.2.2.2.2.2.1.2.1)) fun y_5 => T.ite y_5.snd.snd (T.ite (decide ((y.2.2.2.2.2.1.2.2.1.length + (1 : Nat) + (1 : Nat)) * nat_lit 8 ≤ most)) (T.ret (Ex.normal, y.2.1, y.2.2.1, y.2.2.2.1, y.2.2.2.2.1, (y.2.2.2.2.2.1.1, y.2.2.2.2.2.1.2.1, List.take (y.2.2.2.2.2.1.2.2.1.length + (1 : Nat) + (1 : Nat)) (List.take (y.2.2.2.2.2.1.2.2.1.length + (1 : Nat)) (List.take y.2.2.2.2.2.1.2.2.1.length y.2.2.2.2.2.1.2.2.1 ++ [y.2.2.2.2.2.2.2.2.2.1.2.2.1]) ++ [y.2.2.2.2.2.2.2.2.2.1.2.1]), ()), y.2.2.2.2.2.2.1, y.2.2.2.2.2.2.2.1, y.2.2.2.2.2.2.2.2.1, ())) T.fail) (T.ret (Ex.normal, y.2.1, y.2.2.1, y.2.2.2.1, y.2.2.2.2.1, (y.2.2.2.2.2.1.1, y.2.2.2.2.2.1.2.1, List.take (y.2.2.2.2.2.1.2.2.1.length + (1 : Nat)) (List.take y.2.2.2.2.2.1.2.2.1.length y.2.2.2.2.2.1.2.2.1 ++ [y.2.2.2.2.2.2.2.2.2.1.2.2.1]), ()), y.2.2.2.2.2.2.1, y.2.2.2.2.2.2.2.1, y.2.2.2.2.2.2.2.2.1, ())))) T.fail) (T.opt (bvh_Tree_Node (y.2.2.2.2.2.1.1, y.2.2.2.2.2.2.2.2.2.1.2.1)) fun y_4 => T.ite (!y_4.snd) (T.ret (Ex.normal, y.2.1, y.2.2.1, y.2.2.2.1, y.2.2.2.2.1, (y.2.2.2.2.2.1.1, y.2.2.2.2.2.1.2.1, List.take y.2.2.2.2.2.1.2.2.1.length y.2.2.2.2.2.1.2.2.1, ()), y.2.2.2.2.2.2.1, y.2.2.2.2.2.2.2.1, y.2.2.2.2.2.2.2.2.1, ())) (T.opt (box_Through (y_4.fst.fst, y.2.2.2.2.2.1.2.1)) fun y_5 => T.ite y_5.snd.snd (T.ite (decide ((y.2.2.2.2.2.1.2.2.1.length + (1 : Nat)) * nat_lit 8 ≤ most)) (T.ret (Ex.normal, y.2.1, y.2.2.1, y.2.2.2.1, y.2.2.2.2.1, (y.2.2.2.2.2.1.1, y.2.2.2.2.2.1.2.1, List.take (y.2.2.2.2.2.1.2.2.1.length + (1 : Nat)) (List.take y.2.2.2.2.2.1.2.2.1.length y.2.2.2.2.2.1.2.2.1 ++ [y.2.2.2.2.2.2.2.2.2.1.2.1]), ()), y.2.2.2.2.2.2.1, y.2.2.2.2.2.2.2.1, y.2.2.2.2.2.2.2.2.1, ())) T.fail) (T.ret (Ex.normal, y.2.1, y.2.2.1, y.2.2.2.1, y.2.2.2.2.1, (y.2.2.2.2.2.1.1, y.2.2.2.2.2.1.2.1, List.take y.2.2.2.2.2.1.2.2.1.length y.2.2.2.2.2.1.2.2.1, ()), y.2.2.2.2.2.2.1, y.2.2.2.2.2.2.2.1, y.2.2.2.2.2.2.2.2.1, ())))))) (T.ret (Ex.normal, y.2.1, y.2.2.1, y.2.2.2.1, y.2.2.2.2.1, (y.2.2.2.2.2.1.1, y.2.2.2.2.2.1.2.1, List.take y.2.2.2.2.2.1.2.2.1.length y.2.2.2.2.2.1.2.2.1, ()), y.2.2.2.2.2.2.1, y.2.2.2.2.2.2.2.1, y.2.2.2.2.2.2.2.2.1, ()))) T.fail)) T.fail) T.fail) (T.ret (Ex.exit (0 : Nat), x.1, x.2.1, x.2.2.1, x.2.2.2.1, (x.2.2.2.2.1.1, x.2.2.2.2.1.2.1, List.take x.2.2.2.2.1.2.2.1.length x.2.2.2.2.1.2.2.1, ()), x.2.2.2.2.2.1, x.2.2.2.2.2.2.1, x.2.2.2.2.2.2.2.1, ()))
noncomputable def eachFirst.l0 (x : (Int × Option Nat × Option Nat × Option Nat) × (Int × Option Nat × Option Nat × Option Nat) × ((List ((Option Nat × Option Nat × Option Nat) × (Option Nat × Option Nat × Option Nat) × Option Nat × Option Nat × Option Nat)) × List (Int) × (Option Nat × Option Nat × Option Nat) × Option Nat × Option Nat × Option Nat) × ((List (((Option Nat × Option Nat × Option Nat) × Option Nat × Option Nat × Option Nat) × Int × Int × Int × Int)) × List (Int)) × (((List (((Option Nat × Option Nat × Option Nat) × Option Nat × Option Nat × Option Nat) × Int × Int × Int × Int)) × List (Int)) × ((Option Nat × Option Nat × Option Nat) × Option Nat × Option Nat × Option Nat) × List Int × Unit) × (Option Nat) × Bool × Int × Unit) : Option (Ex × (Int × Option Nat × Option Nat × Option Nat) × (Int × Option Nat × Option Nat × Option Nat) × ((List ((Option Nat × Option Nat × Option Nat) × (Option Nat × Option Nat × Option Nat) × Option Nat × Option Nat × Option Nat)) × List (Int) × (Option Nat × Option Nat × Option Nat) × Option Nat × Option Nat × Option Nat) × ((List (((Option Nat × Option Nat × Option Nat) × Option Nat × Option Nat × Option Nat) × Int × Int × Int × Int)) × List (Int)) × (((List (((Option Nat × Option Nat × Option Nat) × Option Nat × Option Nat × Option Nat) × Int × Int × Int × Int)) × List (Int)) × ((Option Nat × Option Nat × Option Nat) × Option Nat × Option Nat × Option Nat) × List Int × Unit) × (Option Nat) × Bool × Int × Unit) := (iterT eachFirst.t0 rounds x).run
theorem eachFirst.k0 : bodies 0 (lp Tryz.f67 []) = [.loop (loopIn 0 (lp Tryz.f67 []))] ∧ WP Tryz.prog 4 (.block 0 (.loop (loopIn 0 (lp Tryz.f67 [])))) (loopS eachFirst.L0 71 0 [.exit 0] eachFirst.l0) :=
  loop_treeN 4 (L := eachFirst.L0) (F := (dp Tryz.prog (ext (ext (ext (ext (ext (ext (ext Xs 51 bvh_Tree_Tri.q) 13 bvh_Tree_Node.q) 176 box_Through.q) 69 tri_Better.q) 123 hit_asker_1.q) 65 hit_none.q) 212 box_Through_1.q) eachFirst.deeps 100 8)) (D := (inL eachFirst.deeps.D)) (tab := [(2, loopS eachFirst.L2 71 2 [.exit 2] eachFirst.l2)]) (t := eachFirst.t0) mixed (dp_ok mixed (quiet_ext (quiet_ext (quiet_ext (quiet_ext (quiet_ext (quiet_ext (quiet_ext Xok bvh_Tree_Tri.ok) bvh_Tree_Node.ok) box_Through.ok) tri_Better.ok) hit_asker_1.ok) hit_none.ok) box_Through_1.ok) eachFirst.deepsOk 100 8).1 (dp_ok mixed (quiet_ext (quiet_ext (quiet_ext (quiet_ext (quiet_ext (quiet_ext (quiet_ext Xok bvh_Tree_Tri.ok) bvh_Tree_Node.ok) box_Through.ok) tri_Better.ok) hit_asker_1.ok) hit_none.ok) box_Through_1.ok) eachFirst.deepsOk 100 8).2 (fun _ => rfl) (by kernel_rfl) (by kernel_rfl) ⟨eachFirst.k2, trivial⟩ (fun x => by kernel_rfl)
noncomputable def eachFirst.S : List (Nat × (St → T (Ex × St))) := [(0, loopS eachFirst.L0 71 0 [.exit 0] eachFirst.l0)]
theorem eachFirst.tab : TabOK Tryz.prog 4 (codeOf Tryz.f67) eachFirst.S := ⟨eachFirst.k0, trivial⟩
end Go.Proofs.Pen

namespace Go.Proofs.Pen
open Go Go.Proofs
noncomputable def hit_asker.t (x : (List ((Option Nat × Option Nat × Option Nat) × (Option Nat × Option Nat × Option Nat) × Option Nat × Option Nat × Option Nat)) × ((Option Nat × Option Nat × Option Nat) × Option Nat × Option Nat × Option Nat) × (List (Int))) : T (((List ((Option Nat × Option Nat × Option Nat) × (Option Nat × Option Nat × Option Nat) × Option Nat × Option Nat × Option Nat)) × List (Int) × (Option Nat × Option Nat × Option Nat) × Option Nat × Option Nat × Option Nat)) := T.ret (x.1, x.2.2, x.2.1)
noncomputable def hit_asker.q : List AV → T AV := entry [(.sl TTri), TBox, (.sl TI)] (outR [(.clo 123 (.pair (.ptr (.sl TTri)) (.pair (.ptr (.sl TI)) (.ptr TBox))))]) hit_asker.t
theorem hit_asker.ok : FnOK Tryz.prog 66 hit_asker.q :=
  entry_in (ps := [(.sl TTri), TBox, (.sl TI)]) (rs := [(.clo 123 (.pair (.ptr (.sl TTri)) (.pair (.ptr (.sl TI)) (.ptr TBox))))]) (F := ({ quiet := (ext (ext (ext (ext (ext Xs 123 hit_asker_1.q) 151 vec_Sub_1.q) 179 tri_Meet_1.q) 192 vec_Mul_1.q) 212 box_Through_1.q), deep := noDeep } : Fns)) (D := D0) (S := tabS []) (t := hit_asker.t) mixed (quiet_ext (quiet_ext (quiet_ext (quiet_ext (quiet_ext Xok hit_asker_1.ok) vec_Sub_1.ok) tri_Meet_1.ok) vec_Mul_1.ok) box_Through_1.ok) (deep_none _) Tryz.func66 (by kernel_rfl) (sok_fn trivial) (by kernel_rfl) (fun x => by kernel_rfl)
end Go.Proofs.Pen

namespace Go.Proofs.Pen
open Go Go.Proofs
noncomputable def hit_First.deeps : Deeps := { D := [67, 126, 127, 68], C := [], frz := false, S := extSn (fun _ _ => noS) 67 4 (tabS eachFirst.S) }
theorem hit_First.deepsOk : LoopsOK Tryz.prog hit_First.deeps.S := (loops_extn (loops_none _) Tryz.func67 eachFirst.tab)
noncomputable def hit_First.t (x : ((List (((Option Nat × Option Nat × Option Nat) × Option Nat × Option Nat × Option Nat) × Int × Int × Int × Int)) × List (Int)) × (List ((Option Nat × Option Nat × Option Nat) × (Option Nat × Option Nat × Option Nat) × Option Nat × Option Nat × Option Nat)) × ((Option Nat × Option Nat × Option Nat) × Option Nat × Option Nat × Option Nat) × (List (Int))) : T ((Int × Option Nat × Option Nat × Option Nat)) := T.opt (bvh_Tree_Node (x.1, (0 : Int))) fun y => T.ite (!y.2) (T.opt (eachFirst.l0 (((0 : Int), some (0 : Nat), some (0 : Nat), some (0 : Nat)), ((-1 : Int), some (0 : Nat), some (0 : Nat), some (0 : Nat)), (x.2.1, x.2.2.2, x.2.2.1), x.1, (x.1, x.2.2.1, [], ()), some (0 : Nat), false, (0 : Int), ())) fun y => T.ite (exEq y.1 (Ex.exit (0 : Nat))) (T.ret y.2.2.1) T.fail) (T.opt (box_Through (y.1.1, x.2.2.1)) fun y => T.ite y.2.2 (T.ite (decide ((1 : Nat) * nat_lit 8 ≤ most)) (T.opt (eachFirst.l0 (((0 : Int), some (0 : Nat), some (0 : Nat), some (0 : Nat)), ((-1 : Int), some (0 : Nat), some (0 : Nat), some (0 : Nat)), (x.2.1, x.2.2.2, x.2.2.1), x.1, (x.1, x.2.2.1, [(0 : Int)], ()), some (0 : Nat), false, (0 : Int), ())) fun y => T.ite (exEq y.1 (Ex.exit (0 : Nat))) (T.ret y.2.2.1) T.fail) T.fail) (T.opt (eachFirst.l0 (((0 : Int), some (0 : Nat), some (0 : Nat), some (0 : Nat)), ((-1 : Int), some (0 : Nat), some (0 : Nat), some (0 : Nat)), (x.2.1, x.2.2.2, x.2.2.1), x.1, (x.1, x.2.2.1, [], ()), some (0 : Nat), false, (0 : Int), ())) fun y => T.ite (exEq y.1 (Ex.exit (0 : Nat))) (T.ret y.2.2.1) T.fail))
noncomputable def hit_First (x : ((List (((Option Nat × Option Nat × Option Nat) × Option Nat × Option Nat × Option Nat) × Int × Int × Int × Int)) × List (Int)) × (List ((Option Nat × Option Nat × Option Nat) × (Option Nat × Option Nat × Option Nat) × Option Nat × Option Nat × Option Nat)) × ((Option Nat × Option Nat × Option Nat) × Option Nat × Option Nat × Option Nat) × (List (Int))) : Option ((Int × Option Nat × Option Nat × Option Nat)) := (hit_First.t x).run
noncomputable def hit_First.q : List AV → T AV := entry [(.ptr TTree), (.sl TTri), TBox, (.sl TI)] (outR [THit]) fun x => .opt (hit_First x) .ret
theorem hit_First.ok : FnOK Tryz.prog 25 hit_First.q :=
  entry_call (ps := [(.ptr TTree), (.sl TTri), TBox, (.sl TI)]) (rs := [THit]) (F := (dp Tryz.prog (ext (ext (ext (ext (ext (ext (ext (ext (ext (ext (ext Xs 65 hit_none.q) 66 hit_asker.q) 13 bvh_Tree_Node.q) 51 bvh_Tree_Tri.q) 176 box_Through.q) 69 tri_Better.q) 123 hit_asker_1.q) 151 vec_Sub_1.q) 179 tri_Meet_1.q) 192 vec_Mul_1.q) 212 box_Through_1.q) hit_First.deeps 100 8)) (D := (inL hit_First.deeps.D)) (S := tabS []) (t := hit_First.t) mixed (dp_ok mixed (quiet_ext (quiet_ext (quiet_ext (quiet_ext (quiet_ext (quiet_ext (quiet_ext (quiet_ext (quiet_ext (quiet_ext (quiet_ext Xok hit_none.ok) hit_asker.ok) bvh_Tree_Node.ok) bvh_Tree_Tri.ok) box_Through.ok) tri_Better.ok) hit_asker_1.ok) vec_Sub_1.ok) tri_Meet_1.ok) vec_Mul_1.ok) box_Through_1.ok) hit_First.deepsOk 100 8).1 (dp_ok mixed (quiet_ext (quiet_ext (quiet_ext (quiet_ext (quiet_ext (quiet_ext (quiet_ext (quiet_ext (quiet_ext (quiet_ext (quiet_ext Xok hit_none.ok) hit_asker.ok) bvh_Tree_Node.ok) bvh_Tree_Tri.ok) box_Through.ok) tri_Better.ok) hit_asker_1.ok) vec_Sub_1.ok) tri_Meet_1.ok) vec_Mul_1.ok) box_Through_1.ok) hit_First.deepsOk 100 8).2 Tryz.func25 (by kernel_rfl) (sok_fn trivial) (by kernel_rfl) (fun x => by kernel_rfl)
end Go.Proofs.Pen

namespace Go.Proofs.Pen
open Go Go.Proofs
noncomputable def eachAny.deeps : Deeps := { D := [126, 127, 70], C := [], frz := false, S := fun _ _ => noS }
theorem eachAny.deepsOk : LoopsOK Tryz.prog eachAny.deeps.S := (loops_none _)
def eachAny.L2 : List (Nat × Lay) := [(9000, .bdead 0), (9001, .blk 1 .flt), (9002, .blk 2 .bool), (9003, .blk 3 (.clo 123 (.pair (.ptr (.sl TTri)) (.pair (.ptr (.sl TI)) (.ptr TBox))))), (0, .val (.ptr TTree)), (2, .clo 70 [3, 1, 2]), (7, .obx [.dat (.ptr TTree), .dat TBox, .own TI]), (8, .val .flt), (9, .val .bool), (10, .val TI), (11, .box TNode), (13, .val TI)]
noncomputable def eachAny.t2 (x : (Option Nat) × Bool × ((List ((Option Nat × Option Nat × Option Nat) × (Option Nat × Option Nat × Option Nat) × Option Nat × Option Nat × Option Nat)) × List (Int) × (Option Nat × Option Nat × Option Nat) × Option Nat × Option Nat × Option Nat) × ((List (((Option Nat × Option Nat × Option Nat) × Option Nat × Option Nat × Option Nat) × Int × Int × Int × Int)) × List (Int)) × (((List (((Option Nat × Option Nat × Option Nat) × Option Nat × Option Nat × Option Nat) × Int × Int × Int × Int)) × List (Int)) × ((Option Nat × Option Nat × Option Nat) × Option Nat × Option Nat × Option Nat) × List Int × Unit) × (Option Nat) × Bool × Int × (((Option Nat × Option Nat × Option Nat) × Option Nat × Option Nat × Option Nat) × Int × Int × Int × Int) × Int × Unit) : T (Ex × (Option Nat) × Bool × ((List ((Option Nat × Option Nat × Option Nat) × (Option Nat × Option Nat × Option Nat) × Option Nat × Option Nat × Option Nat)) × List (Int) × (Option Nat × Option Nat × Option Nat) × Option Nat × Option Nat × Option Nat) × ((List (((Option Nat × Option Nat × Option Nat) × Option Nat × Option Nat × Option Nat) × Int × Int × Int × Int)) × List (Int)) × (((List (((Option Nat × Option Nat × Option Nat) × Option Nat × Option Nat × Option Nat) × Int × Int × Int × Int)) × List (Int)) × ((Option Nat × Option Nat × Option Nat) × Option Nat × Option Nat × Option Nat) × List Int × Unit) × (Option Nat) × Bool × Int × (((Option Nat × Option Nat × Option Nat) × Option Nat × Option Nat × Option Nat) × Int × Int × Int × Int) × Int × Unit) := T.ite (decide (x.2.2.2.2.2.2.2.2.2.1 < x.2.2.2.2.2.2.2.2.1.2.2.2.2)) (T.opt (bvh_Tree_Tri (x.2.2.2.1, x.2.2.2.2.2.2.2.2.2.1)) fun y => T.opt (hit_asker_1 (y, x.2.2.1)) fun y => T.ite (decide (y.1 ≥ (0 : Int)) && ford y.2.1 x.1 == some Ordering.lt) (T.ret (Ex.normal, x.1, true, x.2.2.1, x.2.2.2.1, (x.2.2.2.2.1.1, x.2.2.2.2.1.2.1, List.take x.2.2.2.2.1.2.2.1.length x.2.2.2.2.1.2.2.1, ()), some (13830554455654793216 : Nat), true, x.2.2.2.2.2.2.2.1, x.2.2.2.2.2.2.2.2.1, W (x.2.2.2.2.2.2.2.2.2.1 + (1 : Int)), ())) (T.ite x.2.1 (T.ret (Ex.normal, x.1, x.2.1, x.2.2.1, x.2.2.2.1, (x.2.2.2.2.1.1, x.2.2.2.2.1.2.1, List.take x.2.2.2.2.1.2.2.1.length x.2.2.2.2.1.2.2.1, ()), some (13830554455654793216 : Nat), true, x.2.2.2.2.2.2.2.1, x.2.2.2.2.2.2.2.2.1, W (x.2.2.2.2.2.2.2.2.2.1 + (1 : Int)), ())) (T.ret (Ex.normal, x.1, x.2.1, x.2.2.1, x.2.2.2.1, (x.2.2.2.2.1.1, x.2.2.2.2.1.2.1, List.take x.2.2.2.2.1.2.2.1.length x.2.2.2.2.1.2.2.1, ()), x.2.2.2.2.2.1, x.2.2.2.2.2.2.1, x.2.2.2.2.2.2.2.1, x.2.2.2.2.2.2.2.2.1, W (x.2.2.2.2.2.2.2.2.2.1 + (1 : Int)), ())))) (T.ret (Ex.exit (2 : Nat), x.1, x.2.1, x.2.2.1, x.2.2.2.1, (x.2.2.2.2.1.1, x.2.2.2.2.1.2.1, List.take x.2.2.2.2.1.2.2.1.length x.2.2.2.2.1.2.2.1, ()), x.2.2.2.2.2.1, x.2.2.2.2.2.2.1, x.2.2.2.2.2.2.2.1, x.2.2.2.2.2.2.2.2.1, x.2.2.2.2.2.2.2.2.2.1, ()))
noncomputable def eachAny.l2 (x : (Option Nat) × Bool × ((List ((Option Nat × Option Nat × Option Nat) × (Option Nat × Option Nat × Option Nat) × Option Nat × Option Nat × Option Nat)) × List (Int) × (Option Nat × Option Nat × Option Nat) × Option Nat × Option Nat × Option Nat) × ((List (((Option Nat × Option Nat × Option Nat) × Option Nat × Option Nat × Option Nat) × Int × Int × Int × Int)) × List (Int)) × (((List (((Option Nat × Option Nat × Option Nat) × Option Nat × Option Nat × Option Nat) × Int × Int × Int × Int)) × List (Int)) × ((Option Nat × Option Nat × Option Nat) × Option Nat × Option Nat × Option Nat) × List Int × Unit) × (Option Nat) × Bool × Int × (((Option Nat × Option Nat × Option Nat) × Option Nat × Option Nat × Option Nat) × Int × Int × Int × Int) × Int × Unit) : Option (Ex × (Option Nat) × Bool × ((List ((Option Nat × Option Nat × Option Nat) × (Option Nat × Option Nat × Option Nat) × Option Nat × Option Nat × Option Nat)) × List (Int) × (Option Nat × Option Nat × Option Nat) × Option Nat × Option Nat × Option Nat) × ((List (((Option Nat × Option Nat × Option Nat) × Option Nat × Option Nat × Option Nat) × Int × Int × Int × Int)) × List (Int)) × (((List (((Option Nat × Option Nat × Option Nat) × Option Nat × Option Nat × Option Nat) × Int × Int × Int × Int)) × List (Int)) × ((Option Nat × Option Nat × Option Nat) × Option Nat × Option Nat × Option Nat) × List Int × Unit) × (Option Nat) × Bool × Int × (((Option Nat × Option Nat × Option Nat) × Option Nat × Option Nat × Option Nat) × Int × Int × Int × Int) × Int × Unit) := (iterT eachAny.t2 rounds x).run
theorem eachAny.k2 : bodies 2 (lp Tryz.f67 [0]) = [.loop (loopIn 2 (lp Tryz.f67 [0]))] ∧ WP Tryz.prog 4 (.block 2 (.loop (loopIn 2 (lp Tryz.f67 [0])))) (loopS eachAny.L2 71 2 [.exit 2] eachAny.l2) :=
  loop_treeN 4 (L := eachAny.L2) (F := (dp Tryz.prog (ext (ext (ext (ext (ext (ext (ext Xs 51 bvh_Tree_Tri.q) 13 bvh_Tree_Node.q) 176 box_Through.q) 69 tri_Better.q) 123 hit_asker_1.q) 65 hit_none.q) 212 box_Through_1.q) eachAny.deeps 100 8)) (D := (inL eachAny.deeps.D)) (tab := []) (t := eachAny.t2) mixed (dp_ok mixed (quiet_ext (quiet_ext (quiet_ext (quiet_ext (quiet_ext (quiet_ext (quiet_ext Xok bvh_Tree_Tri.ok) bvh_Tree_Node.ok) box_Through.ok) tri_Better.ok) hit_asker_1.ok) hit_none.ok) box_Through_1.ok) eachAny.deepsOk 100 8).1 (dp_ok mixed (quiet_ext (quiet_ext (quiet_ext (quiet_ext (quiet_ext (quiet_ext (quiet_ext Xok bvh_Tree_Tri.ok) bvh_Tree_Node.ok) box_Through.ok) tri_Better.ok) hit_asker_1.ok) hit_none.ok) box_Through_1.ok) eachAny.deepsOk 100 8).2 (fun _ => rfl) (by kernel_rfl) (by kernel_rfl) trivial (fun x => by kernel_rfl)
def eachAny.L0 : List (Nat × Lay) := [(9000, .bdead 0), (9001, .blk 1 .flt), (9002, .blk 2 .bool), (9003, .blk 3 (.clo 123 (.pair (.ptr (.sl TTri)) (.pair (.ptr (.sl TI)) (.ptr TBox))))), (0, .val (.ptr TTree)), (2, .clo 70 [3, 1, 2]), (7, .obx [.dat (.ptr TTree), .dat TBox, .own TI]), (8, .val .flt), (9, .val .bool), (10, .val TI)]
noncomputable def eachAny.t0 (x : (Option Nat) × Bool × ((List ((Option Nat × Option Nat × Option Nat) × (Option Nat × Option Nat × Option Nat) × Option Nat × Option Nat × Option Nat)) × List (Int) × (Option Nat × Option Nat × Option Nat) × Option Nat × Option Nat × Option Nat) × ((List (((Option Nat × Option Nat × Option Nat) × Option Nat × Option Nat × Option Nat) × Int × Int × Int × Int)) × List (Int)) × (((List (((Option Nat × Option Nat × Option Nat) × Option Nat × Option Nat × Option Nat) × Int × Int × Int × Int)) × List (Int)) × ((Option Nat × Option Nat × Option Nat) × Option Nat × Option Nat × Option Nat) × List Int × Unit) × (Option Nat) × Bool × Int × Unit) : T (Ex × (Option Nat) × Bool × ((List ((Option Nat × Option Nat × Option Nat) × (Option Nat × Option Nat × Option Nat) × Option Nat × Option Nat × Option Nat)) × List (Int) × (Option Nat × Option Nat × Option Nat) × Option Nat × Option Nat × Option Nat) × ((List (((Option Nat × Option Nat × Option Nat) × Option Nat × Option Nat × Option Nat) × Int × Int × Int × Int)) × List (Int)) × (((List (((Option Nat × Option Nat × Option Nat) × Option Nat × Option Nat × Option Nat) × Int × Int × Int × Int)) × List (Int)) × ((Option Nat × Option Nat × Option Nat) × Option Nat × Option Nat × Option Nat) × List Int × Unit) × (Option Nat) × Bool × Int × Unit) := T.ite (decide ((↑x.2.2.2.2.1.2.2.1.length : Int) > (0 : Int))) (T.ite (decide ((0 : Int) ≤ W ((↑x.2.2.2.2.1.2.2.1.length : Int) - (1 : Int))) && decide (W ((↑x.2.2.2.2.1.2.2.1.length : Int) - (1 : Int)) < (↑x.2.2.2.2.1.2.2.1.length : Int))) (T.opt x.2.2.2.2.1.2.2.1[(0 : Nat) + (W ((↑x.2.2.2.2.1.2.2.1.length : Int) - (1 : Int))).toNat]? fun y => T.ite (decide ((0 : Int) ≤ (0 : Int)) && decide ((0 : Int) ≤ W ((↑x.2.2.2.2.1.2.2.1.length : Int) - (1 : Int))) && decide (W ((↑x.2.2.2.2.1.2.2.1.length : Int) - (1 : Int)) ≤ (↑x.2.2.2.2.1.2.2.1.length : Int))) (T.opt (bvh_Tree_Node (x.2.2.2.2.1.1, y)) fun y => T.opt (box_Through (y.1.1, x.2.2.2.2.1.2.1)) fun y_1 => T.ite (x.2.2.2.2.2.2.1 && ford y_1.fst x.2.2.2.2.2.1 == some Ordering.gt) (T.ret (Ex.normal, x.1, x.2.1, x.2.2.1, x.2.2.2.1, (x.2.2.2.2.1.1, x.2.2.2.2.1.2.1, List.take ((W ((↑x.2.2.2.2.1.2.2.1.length : Int) - (1 : Int))).toNat - Int.toNat (0 : Int)) x.2.2.2.2.1.2.2.1, ()), x.2.2.2.2.2.1, x.2.2.2.2.2.2.1, W (x.2.2.2.2.2.2.2.1 + (1 : Int)), ())) (T.opt (eachAny.l2 (x.1, x.2.1, x.2.2.1, x.2.2.2.1, (x.2.2.2.2.1.1, x.2.2.2.2.1.2.1, List.take ((W ((↑x.2.2.2.2.1.2.2.1.length : Int) - (1 : Int))).toNat - Int.toNat (0 : Int)) x.2.2.2.2.1.2.2.1, ()), x.2.2.2.2.2.1, x.2.2.2.2.2.2.1, W (x.2.2.2.2.2.2.2.1 + (1 : Int)), y.1, y.1.2.2.2.1, ())) fun y => T.ite (exEq y.1 (Ex.exit (2 : Nat))) (T.ite (decide (y.2.2.2.2.2.2.2.2.2.1.2.1 > (0 : Int))) (T.opt (bvh_Tree_Node (y.2.2.2.2.2.1.1, y.2.2.2.2.2.2.2.2.2.1.2.2.1)) fun y_2 => T.ite (!y_2.snd) (T.opt (bvh_Tree_Node (y.2.2.2.2.2.1.1, y.2.2.2.2.2.2.2.2.2.1.2.1)) fun y_3 => T.ite (!y_3.snd) (T.ret (Ex.normal, y.2.1, y.2.2.1, y.2.2.2.1, y.2.2.2.2.1, (y.2.2.2.2.2.1.1, y.2.2.2.2.2.1.2.1, List.take y.2.2.2.2.2.1.2.2.1.length y.2.2.2.2.2.1.2.2.1, ()), y.2.2.2.2.2.2.1, y.2.2.2.2.2.2.2.1, y.2.2.2.2.2.2.2.2.1, ())) (T.opt (box_Through (y_3.fst.fst, y.2.2.2.2.2.1.2.1)) fun y_4 => T.ite y_4.snd.snd (T.ite (decide ((y.2.2.2.2.2.1.2.2.1.length + (1 : Nat)) * nat_lit 8 ≤ most)) (T.ret (Ex.normal, y.2.1, y.2.2.1, y.2.2.2.1, y.2.2.2.2.1, (y.2.2.2.2.2.1.1, y.2.2.2.2.2.1.2.1, List.take (y.2.2.2.2.2.1.2.2.1.length + (1 : Nat)) (List.take y.2.2.2.2.2.1.2.2.1.length y.2.2.2.2.2.1.2.2.1 ++ [y.2.2.2.2.2.2.2.2.2.1.2.1]), ()), y.2.2.2.2.2.2.1, y.2.2.2.2.2.2.2.1, y.2.2.2.2.2.2.2.2.1, ())) T.fail) (T.ret (Ex.normal, y.2.1, y.2.2.1, y.2.2.2.1, y.2.2.2.2.1, (y.2.2.2.2.2.1.1, y.2.2.2.2.2.1.2.1, List.take y.2.2.2.2.2.1.2.2.1.length y.2.2.2.2.2.1.2.2.1, ()), y.2.2.2.2.2.2.1, y.2.2.2.2.2.2.2.1, y.2.2.2.2.2.2.2.2.1, ())))) (T.opt (box_Through (y_2.fst.fst, y.2.2.2.2.2.1.2.1)) fun y_3 => T.ite y_3.snd.snd (T.ite (decide ((y.2.2.2.2.2.1.2.2.1.length + (1 : Nat)) * nat_lit 8 ≤ most)) (T.opt (bvh_Tree_Node (y.2.2.2.2.2.1.1, y.2.2.2.2.2.2.2.2.2.1.2.1)) fun y_4 => T.ite (!y_4.snd) (T.ret (Ex.normal, y.2.1, y.2.2.1, y.2.2.2.1, y.2.2.2.2.1, (y.2.2.2.2.2.1.1, y.2.2.2.2.2.1.2.1, List.take (y.2.2.2.2.2.1.2.2.1.length + (1 : Nat)) (List.take y.2.2.2.2.2.1.2.2.1.length y.2.2.2.2.2.1.2.2.1 ++ [y.2.2.2.2.2.2.2.2.2.1.2.2.1]), ()), y.2.2.2.2.2.2.1, y.2.2.2.2.2.2.2.1, y.2.2.2.2.2.2.2.2.1, ())) (T.opt (box_Through (y_4.fst.fst, y.2.2.2.2.2.1.2.1)) fun y_5 => T.ite y_5.snd.snd (T.ite (decide ((y.2.2.2.2.2.1.2.2.1.length + (1 : Nat) + (1 : Nat)) * nat_lit 8 ≤ most)) (T.ret (Ex.normal, y.2.1, y.2.2.1, y.2.2.2.1, y.2.2.2.2.1, (y.2.2.2.2.2.1.1, y.2.2.2.2.2.1.2.1, List.take (y.2.2.2.2.2.1.2.2.1.length + (1 : Nat) + (1 : Nat)) (List.take (y.2.2.2.2.2.1.2.2.1.length + (1 : Nat)) (List.take y.2.2.2.2.2.1.2.2.1.length y.2.2.2.2.2.1.2.2.1 ++ [y.2.2.2.2.2.2.2.2.2.1.2.2.1]) ++ [y.2.2.2.2.2.2.2.2.2.1.2.1]), ()), y.2.2.2.2.2.2.1, y.2.2.2.2.2.2.2.1, y.2.2.2.2.2.2.2.2.1, ())) T.fail) (T.ret (Ex.normal, y.2.1, y.2.2.1, y.2.2.2.1, y.2.2.2.2.1, (y.2.2.2.2.2.1.1, y.2.2.2.2.2.1.2.1, List.take (y.2.2.2.2.2.1.2.2.1.length + (1 : Nat)) (List.take y.2.2.2.2.2.1.2.2.1.length y.2.2.2.2.2.1.2.2.1 ++ [y.2.2.2.2.2.2.2.2.2.1.2.2.1]), ()), y.2.2.2.2.2.2.1, y.2.2.2.2.2.2.2.1, y.2.2.2.2.2.2.2.2.1, ())))) T.fail) (T.opt (bvh_Tree_Node (y.2.2.2.2.2.1.1, y.2.2.2.2.2.2.2.2.2.1.2.1)) fun y_4 => T.ite (!y_4.snd) (T.ret (Ex.normal, y.2.1, y.2.2.1, y.2.2.2.1, y.2.2.2.2.1, (y.2.2.2.2.2.1.1, y.2.2.2.2.2.1.2.1, List.take y.2.2.2.2.2.1.2.2.1.length y.2.2.2.2.2.1.2.2.1, ()), y.2.2.2.2.2.2.1, y.2.2.2.2.2.2.2.1, y.2.2.2.2.2.2.2.2.1, ())) (T.opt (box_Through (y_4.fst.fst, y.2.2.2.2.2.1.2.1)) fun y_5 => T.ite y_5.snd.snd (T.ite (decide ((y.2.2.2.2.2.1.2.2.1.length + (1 : Nat)) * nat_lit 8 ≤ most)) (T.ret (Ex.normal, y.2.1, y.2.2.1, y.2.2.2.1, y.2.2.2.2.1, (y.2.2.2.2.2.1.1, y.2.2.2.2.2.1.2.1, List.take (y.2.2.2.2.2.1.2.2.1.length + (1 : Nat)) (List.take y.2.2.2.2.2.1.2.2.1.length y.2.2.2.2.2.1.2.2.1 ++ [y.2.2.2.2.2.2.2.2.2.1.2.1]), ()), y.2.2.2.2.2.2.1, y.2.2.2.2.2.2.2.1, y.2.2.2.2.2.2.2.2.1, ())) T.fail) (T.ret (Ex.normal, y.2.1, y.2.2.1, y.2.2.2.1, y.2.2.2.2.1, (y.2.2.2.2.2.1.1, y.2.2.2.2.2.1.2.1, List.take y.2.2.2.2.2.1.2.2.1.length y.2.2.2.2.2.1.2.2.1, ()), y.2.2.2.2.2.2.1, y.2.2.2.2.2.2.2.1, y.2.2.2.2.2.2.2.2.1, ())))))) (T.ret (Ex.normal, y.2.1, y.2.2.1, y.2.2.2.1, y.2.2.2.2.1, (y.2.2.2.2.2.1.1, y.2.2.2.2.2.1.2.1, List.take y.2.2.2.2.2.1.2.2.1.length y.2.2.2.2.2.1.2.2.1, ()), y.2.2.2.2.2.2.1, y.2.2.2.2.2.2.2.1, y.2.2.2.2.2.2.2.2.1, ()))) T.fail)) T.fail) T.fail) (T.ret (Ex.exit (0 : Nat), x.1, x.2.1, x.2.2.1, x.2.2.2.1, (x.2.2.2.2.1.1, x.2.2.2.2.1.2.1, List.take x.2.2.2.2.1.2.2.1.length x.2.2.2.2.1.2.2.1, ()), x.2.2.2.2.2.1, x.2.2.2.2.2.2.1, x.2.2.2.2.2.2.2.1, ()))
noncomputable def eachAny.l0 (x : (Option Nat) × Bool × ((List ((Option Nat × Option Nat × Option Nat) × (Option Nat × Option Nat × Option Nat) × Option Nat × Option Nat × Option Nat)) × List (Int) × (Option Nat × Option Nat × Option Nat) × Option Nat × Option Nat × Option Nat) × ((List (((Option Nat × Option Nat × Option Nat) × Option Nat × Option Nat × Option Nat) × Int × Int × Int × Int)) × List (Int)) × (((List (((Option Nat × Option Nat × Option Nat) × Option Nat × Option Nat × Option Nat) × Int × Int × Int × Int)) × List (Int)) × ((Option Nat × Option Nat × Option Nat) × Option Nat × Option Nat × Option Nat) × List Int × Unit) × (Option Nat) × Bool × Int × Unit) : Option (Ex × (Option Nat) × Bool × ((List ((Option Nat × Option Nat × Option Nat) × (Option Nat × Option Nat × Option Nat) × Option Nat × Option Nat × Option Nat)) × List (Int) × (Option Nat × Option Nat × Option Nat) × Option Nat × Option Nat × Option Nat) × ((List (((Option Nat × Option Nat × Option Nat) × Option Nat × Option Nat × Option Nat) × Int × Int × Int × Int)) × List (Int)) × (((List (((Option Nat × Option Nat × Option Nat) × Option Nat × Option Nat × Option Nat) × Int × Int × Int × Int)) × List (Int)) × ((Option Nat × Option Nat × Option Nat) × Option Nat × Option Nat × Option Nat) × List Int × Unit) × (Option Nat) × Bool × Int × Unit) := (iterT eachAny.t0 rounds x).run
theorem eachAny.k0 : bodies 0 (lp Tryz.f67 []) = [.loop (loopIn 0 (lp Tryz.f67 []))] ∧ WP Tryz.prog 4 (.block 0 (.loop (loopIn 0 (lp Tryz.f67 [])))) (loopS eachAny.L0 71 0 [.exit 0] eachAny.l0) :=
  loop_treeN 4 (L := eachAny.L0) (F := (dp Tryz.prog (ext (ext (ext (ext (ext (ext (ext Xs 51 bvh_Tree_Tri.q) 13 bvh_Tree_Node.q) 176 box_Through.q) 69 tri_Better.q) 123 hit_asker_1.q) 65 hit_none.q) 212 box_Through_1.q) eachAny.deeps 100 8)) (D := (inL eachAny.deeps.D)) (tab := [(2, loopS eachAny.L2 71 2 [.exit 2] eachAny.l2)]) (t := eachAny.t0) mixed (dp_ok mixed (quiet_ext (quiet_ext (quiet_ext (quiet_ext (quiet_ext (quiet_ext (quiet_ext Xok bvh_Tree_Tri.ok) bvh_Tree_Node.ok) box_Through.ok) tri_Better.ok) hit_asker_1.ok) hit_none.ok) box_Through_1.ok) eachAny.deepsOk 100 8).1 (dp_ok mixed (quiet_ext (quiet_ext (quiet_ext (quiet_ext (quiet_ext (quiet_ext (quiet_ext Xok bvh_Tree_Tri.ok) bvh_Tree_Node.ok) box_Through.ok) tri_Better.ok) hit_asker_1.ok) hit_none.ok) box_Through_1.ok) eachAny.deepsOk 100 8).2 (fun _ => rfl) (by kernel_rfl) (by kernel_rfl) ⟨eachAny.k2, trivial⟩ (fun x => by kernel_rfl)
noncomputable def eachAny.S : List (Nat × (St → T (Ex × St))) := [(0, loopS eachAny.L0 71 0 [.exit 0] eachAny.l0)]
theorem eachAny.tab : TabOK Tryz.prog 4 (codeOf Tryz.f67) eachAny.S := ⟨eachAny.k0, trivial⟩
end Go.Proofs.Pen

namespace Go.Proofs.Pen
open Go Go.Proofs
noncomputable def hit_Any.deeps : Deeps := { D := [67, 126, 127, 70], C := [], frz := false, S := extSn (fun _ _ => noS) 67 4 (tabS eachAny.S) }
theorem hit_Any.deepsOk : LoopsOK Tryz.prog hit_Any.deeps.S := (loops_extn (loops_none _) Tryz.func67 eachAny.tab)
noncomputable def hit_Any.t (x : ((List (((Option Nat × Option Nat × Option Nat) × Option Nat × Option Nat × Option Nat) × Int × Int × Int × Int)) × List (Int)) × (List ((Option Nat × Option Nat × Option Nat) × (Option Nat × Option Nat × Option Nat) × Option Nat × Option Nat × Option Nat)) × ((Option Nat × Option Nat × Option Nat) × Option Nat × Option Nat × Option Nat) × (Option Nat) × (List (Int))) : T (Bool) := T.opt (bvh_Tree_Node (x.1, (0 : Int))) fun y => T.ite (!y.2) (T.opt (eachAny.l0 (x.2.2.2.1, false, (x.2.1, x.2.2.2.2, x.2.2.1), x.1, (x.1, x.2.2.1, [], ()), some (0 : Nat), false, (0 : Int), ())) fun y => T.ite (exEq y.1 (Ex.exit (0 : Nat))) (T.ret y.2.2.1) T.fail) (T.opt (box_Through (y.1.1, x.2.2.1)) fun y => T.ite y.2.2 (T.ite (decide ((1 : Nat) * nat_lit 8 ≤ most)) (T.opt (eachAny.l0 (x.2.2.2.1, false, (x.2.1, x.2.2.2.2, x.2.2.1), x.1, (x.1, x.2.2.1, [(0 : Int)], ()), some (0 : Nat), false, (0 : Int), ())) fun y => T.ite (exEq y.1 (Ex.exit (0 : Nat))) (T.ret y.2.2.1) T.fail) T.fail) (T.opt (eachAny.l0 (x.2.2.2.1, false, (x.2.1, x.2.2.2.2, x.2.2.1), x.1, (x.1, x.2.2.1, [], ()), some (0 : Nat), false, (0 : Int), ())) fun y => T.ite (exEq y.1 (Ex.exit (0 : Nat))) (T.ret y.2.2.1) T.fail))
noncomputable def hit_Any (x : ((List (((Option Nat × Option Nat × Option Nat) × Option Nat × Option Nat × Option Nat) × Int × Int × Int × Int)) × List (Int)) × (List ((Option Nat × Option Nat × Option Nat) × (Option Nat × Option Nat × Option Nat) × Option Nat × Option Nat × Option Nat)) × ((Option Nat × Option Nat × Option Nat) × Option Nat × Option Nat × Option Nat) × (Option Nat) × (List (Int))) : Option (Bool) := (hit_Any.t x).run
noncomputable def hit_Any.q : List AV → T AV := entry [(.ptr TTree), (.sl TTri), TBox, .flt, (.sl TI)] (outR [.bool]) fun x => .opt (hit_Any x) .ret
theorem hit_Any.ok : FnOK Tryz.prog 26 hit_Any.q :=
  entry_call (ps := [(.ptr TTree), (.sl TTri), TBox, .flt, (.sl TI)]) (rs := [.bool]) (F := (dp Tryz.prog (ext (ext (ext (ext (ext (ext (ext (ext (ext (ext (ext Xs 66 hit_asker.q) 13 bvh_Tree_Node.q) 51 bvh_Tree_Tri.q) 176 box_Through.q) 69 tri_Better.q) 123 hit_asker_1.q) 65 hit_none.q) 151 vec_Sub_1.q) 179 tri_Meet_1.q) 192 vec_Mul_1.q) 212 box_Through_1.q) hit_Any.deeps 100 8)) (D := (inL hit_Any.deeps.D)) (S := tabS []) (t := hit_Any.t) mixed (dp_ok mixed (quiet_ext (quiet_ext (quiet_ext (quiet_ext (quiet_ext (quiet_ext (quiet_ext (quiet_ext (quiet_ext (quiet_ext (quiet_ext Xok hit_asker.ok) bvh_Tree_Node.ok) bvh_Tree_Tri.ok) box_Through.ok) tri_Better.ok) hit_asker_1.ok) hit_none.ok) vec_Sub_1.ok) tri_Meet_1.ok) vec_Mul_1.ok) box_Through_1.ok) hit_Any.deepsOk 100 8).1 (dp_ok mixed (quiet_ext (quiet_ext (quiet_ext (quiet_ext (quiet_ext (quiet_ext (quiet_ext (quiet_ext (quiet_ext (quiet_ext (quiet_ext Xok hit_asker.ok) bvh_Tree_Node.ok) bvh_Tree_Tri.ok) box_Through.ok) tri_Better.ok) hit_asker_1.ok) hit_none.ok) vec_Sub_1.ok) tri_Meet_1.ok) vec_Mul_1.ok) box_Through_1.ok) hit_Any.deepsOk 100 8).2 Tryz.func26 (by kernel_rfl) (sok_fn trivial) (by kernel_rfl) (fun x => by kernel_rfl)
end Go.Proofs.Pen

namespace Go.Proofs.Pen
open Go Go.Proofs
def hit_Scan.L0 : List (Nat × Lay) := [(6, .box THit), (7, .box THit), (8, .val (.clo 123 (.pair (.ptr (.sl TTri)) (.pair (.ptr (.sl TI)) (.ptr TBox))))), (17, .val TI), (18, .val TI)]
noncomputable def hit_Scan.t0 (x : (Int × Option Nat × Option Nat × Option Nat) × (Int × Option Nat × Option Nat × Option Nat) × ((List ((Option Nat × Option Nat × Option Nat) × (Option Nat × Option Nat × Option Nat) × Option Nat × Option Nat × Option Nat)) × List (Int) × (Option Nat × Option Nat × Option Nat) × Option Nat × Option Nat × Option Nat) × Int × Int × Unit) : T (Ex × (Int × Option Nat × Option Nat × Option Nat) × (Int × Option Nat × Option Nat × Option Nat) × ((List ((Option Nat × Option Nat × Option Nat) × (Option Nat × Option Nat × Option Nat) × Option Nat × Option Nat × Option Nat)) × List (Int) × (Option Nat × Option Nat × Option Nat) × Option Nat × Option Nat × Option Nat) × Int × Int × Unit) := T.ite (decide (x.2.2.2.2.1 < x.2.2.2.1)) (T.opt (hit_asker_1 (x.2.2.2.2.1, x.2.2.1)) fun y => T.opt (tri_Better (y, x.2.1)) fun y_1 => T.ite y_1 (T.ret (Ex.normal, x.1, y, x.2.2.1, x.2.2.2.1, W (x.2.2.2.2.1 + (1 : Int)), ())) (T.ret (Ex.normal, x.1, x.2.1, x.2.2.1, x.2.2.2.1, W (x.2.2.2.2.1 + (1 : Int)), ()))) (T.ret (Ex.exit (0 : Nat), x.1, x.2.1, x.2.2.1, x.2.2.2.1, x.2.2.2.2.1, ()))
noncomputable def hit_Scan.l0 (x : (Int × Option Nat × Option Nat × Option Nat) × (Int × Option Nat × Option Nat × Option Nat) × ((List ((Option Nat × Option Nat × Option Nat) × (Option Nat × Option Nat × Option Nat) × Option Nat × Option Nat × Option Nat)) × List (Int) × (Option Nat × Option Nat × Option Nat) × Option Nat × Option Nat × Option Nat) × Int × Int × Unit) : Option (Ex × (Int × Option Nat × Option Nat × Option Nat) × (Int × Option Nat × Option Nat × Option Nat) × ((List ((Option Nat × Option Nat × Option Nat) × (Option Nat × Option Nat × Option Nat) × Option Nat × Option Nat × Option Nat)) × List (Int) × (Option Nat × Option Nat × Option Nat) × Option Nat × Option Nat × Option Nat) × Int × Int × Unit) := (iterT hit_Scan.t0 rounds x).run
theorem hit_Scan.k0 : bodies 0 (lp Tryz.f30 []) = [.loop (loopIn 0 (lp Tryz.f30 []))] ∧ WP Tryz.prog 0 (.block 0 (.loop (loopIn 0 (lp Tryz.f30 [])))) (loopS hit_Scan.L0 30 0 [.exit 0] hit_Scan.l0) :=
  loop_tree (L := hit_Scan.L0) (F := ({ quiet := (ext (ext (ext (ext (ext (ext (ext (ext Xs 65 hit_none.q) 66 hit_asker.q) 69 tri_Better.q) 123 hit_asker_1.q) 151 vec_Sub_1.q) 179 tri_Meet_1.q) 192 vec_Mul_1.q) 212 box_Through_1.q), deep := noDeep } : Fns)) (D := D0) (tab := []) (t := hit_Scan.t0) mixed (quiet_ext (quiet_ext (quiet_ext (quiet_ext (quiet_ext (quiet_ext (quiet_ext (quiet_ext Xok hit_none.ok) hit_asker.ok) tri_Better.ok) hit_asker_1.ok) vec_Sub_1.ok) tri_Meet_1.ok) vec_Mul_1.ok) box_Through_1.ok) (deep_none _) (fun _ => rfl) (by kernel_rfl) (by kernel_rfl) trivial (fun x => by kernel_rfl)
noncomputable def hit_Scan.t (x : (List ((Option Nat × Option Nat × Option Nat) × (Option Nat × Option Nat × Option Nat) × Option Nat × Option Nat × Option Nat)) × ((Option Nat × Option Nat × Option Nat) × Option Nat × Option Nat × Option Nat) × (List (Int))) : T ((Int × Option Nat × Option Nat × Option Nat)) := T.opt (hit_Scan.l0 (((0 : Int), some (0 : Nat), some (0 : Nat), some (0 : Nat)), ((-1 : Int), some (0 : Nat), some (0 : Nat), some (0 : Nat)), (x.1, x.2.2, x.2.1), (↑(List.length x.1) : Int), (0 : Int), ())) fun y => T.ite (exEq y.1 (Ex.exit (0 : Nat))) (T.ret y.2.2.1) T.fail
noncomputable def hit_Scan (x : (List ((Option Nat × Option Nat × Option Nat) × (Option Nat × Option Nat × Option Nat) × Option Nat × Option Nat × Option Nat)) × ((Option Nat × Option Nat × Option Nat) × Option Nat × Option Nat × Option Nat) × (List (Int))) : Option ((Int × Option Nat × Option Nat × Option Nat)) := (hit_Scan.t x).run
noncomputable def hit_Scan.q : List AV → T AV := entry [(.sl TTri), TBox, (.sl TI)] (outR [THit]) fun x => .opt (hit_Scan x) .ret
theorem hit_Scan.ok : FnOK Tryz.prog 30 hit_Scan.q :=
  entry_call (ps := [(.sl TTri), TBox, (.sl TI)]) (rs := [THit]) (F := ({ quiet := (ext (ext (ext (ext (ext (ext (ext (ext Xs 65 hit_none.q) 66 hit_asker.q) 69 tri_Better.q) 123 hit_asker_1.q) 151 vec_Sub_1.q) 179 tri_Meet_1.q) 192 vec_Mul_1.q) 212 box_Through_1.q), deep := noDeep } : Fns)) (D := D0) (S := tabS [(0, loopS hit_Scan.L0 30 0 [.exit 0] hit_Scan.l0)]) (t := hit_Scan.t) mixed (quiet_ext (quiet_ext (quiet_ext (quiet_ext (quiet_ext (quiet_ext (quiet_ext (quiet_ext Xok hit_none.ok) hit_asker.ok) tri_Better.ok) hit_asker_1.ok) vec_Sub_1.ok) tri_Meet_1.ok) vec_Mul_1.ok) box_Through_1.ok) (deep_none _) Tryz.func30 (by kernel_rfl) (sok_fn ⟨hit_Scan.k0, trivial⟩) (by kernel_rfl) (fun x => by kernel_rfl)
end Go.Proofs.Pen

namespace Go.Proofs.Pen
open Go Go.Proofs
noncomputable def ref02_Number.t (x : (Option Nat)) : T (Bool) := T.ret (ford (fop BinOp.sub x x) (some (0 : Nat)) == some Ordering.eq)
noncomputable def ref02_Number.q : List AV → T AV := entry [.flt] (outR [.bool]) ref02_Number.t
theorem ref02_Number.ok : FnOK Tryz.prog 129 ref02_Number.q :=
  entry_in (ps := [.flt]) (rs := [.bool]) (F := ({ quiet := Xs, deep := noDeep } : Fns)) (D := D0) (S := tabS []) (t := ref02_Number.t) mixed Xok (deep_none _) Tryz.func129 (by kernel_rfl) (sok_fn trivial) (by kernel_rfl) (fun x => by kernel_rfl)
end Go.Proofs.Pen

namespace Go.Proofs.Pen
open Go Go.Proofs
noncomputable def ref02_Finite.t (x : (Option Nat × Option Nat × Option Nat)) : T (Bool) := T.ite (ford (fop BinOp.sub x.1 x.1) (some (0 : Nat)) == some Ordering.eq) (T.ite (ford (fop BinOp.sub x.2.1 x.2.1) (some (0 : Nat)) == some Ordering.eq) (T.ret (ford (fop BinOp.sub x.2.2 x.2.2) (some (0 : Nat)) == some Ordering.eq)) (T.ret false)) (T.ret false)
noncomputable def ref02_Finite (x : (Option Nat × Option Nat × Option Nat)) : Option (Bool) := (ref02_Finite.t x).run
noncomputable def ref02_Finite.q : List AV → T AV := entry [TV] (outR [.bool]) fun x => .opt (ref02_Finite x) .ret
theorem ref02_Finite.ok : FnOK Tryz.prog 72 ref02_Finite.q :=
  entry_call (ps := [TV]) (rs := [.bool]) (F := ({ quiet := (ext Xs 129 ref02_Number.q), deep := noDeep } : Fns)) (D := D0) (S := tabS []) (t := ref02_Finite.t) mixed (quiet_ext Xok ref02_Number.ok) (deep_none _) Tryz.func72 (by kernel_rfl) (sok_fn trivial) (by kernel_rfl) (fun x => by kernel_rfl)
end Go.Proofs.Pen

namespace Go.Proofs.Pen
open Go Go.Proofs
def ref04_Through.L0 : List (Nat × Lay) := [(2, .box TBox), (3, .box TBox), (7, .val .flt), (8, .val .flt), (9, .val .bool), (10, .val TI)]
noncomputable def ref04_Through.t0 (x : ((Option Nat × Option Nat × Option Nat) × Option Nat × Option Nat × Option Nat) × ((Option Nat × Option Nat × Option Nat) × Option Nat × Option Nat × Option Nat) × (Option Nat) × (Option Nat) × Bool × Int × Unit) : T (Ex × ((Option Nat × Option Nat × Option Nat) × Option Nat × Option Nat × Option Nat) × ((Option Nat × Option Nat × Option Nat) × Option Nat × Option Nat × Option Nat) × (Option Nat) × (Option Nat) × Bool × Int × Unit) := T.ite (decide (x.2.2.2.2.2.1 < (3 : Int)) && x.2.2.2.2.1) (T.opt (ref04_Part (x.2.1.1, x.2.2.2.2.2.1)) fun y => T.opt (ref04_Part (x.2.1.2, x.2.2.2.2.2.1)) fun y_1 => T.opt (ref04_Part (x.1.1, x.2.2.2.2.2.1)) fun y_2 => T.opt (ref04_Part (x.1.2, x.2.2.2.2.2.1)) fun y_3 => T.ite (ford y_1 (some (0 : Nat)) == some Ordering.eq) (T.ret (Ex.normal, x.1, x.2.1, x.2.2.1, x.2.2.2.1, (ford y_2 y == some Ordering.lt || ford y_2 y == some Ordering.eq) && (ford y y_3 == some Ordering.lt || ford y y_3 == some Ordering.eq), W (x.2.2.2.2.2.1 + (1 : Int)), ())) (T.ite (ford (fop BinOp.quo (some (4607182418800017408 : Nat)) y_1) (some (0 : Nat)) == some Ordering.lt) (T.opt (ref04_High (x.2.2.1, fop BinOp.mul (fop BinOp.sub y_3 y) (fop BinOp.quo (some (4607182418800017408 : Nat)) y_1))) fun y_4 => T.opt (ref04_Low (x.2.2.2.1, fop BinOp.mul (fop BinOp.sub y_2 y) (fop BinOp.quo (some (4607182418800017408 : Nat)) y_1))) fun y => T.ret (Ex.normal, x.1, x.2.1, y_4, y, x.2.2.2.2.1, W (x.2.2.2.2.2.1 + (1 : Int)), ())) (T.opt (ref04_High (x.2.2.1, fop BinOp.mul (fop BinOp.sub y_2 y) (fop BinOp.quo (some (4607182418800017408 : Nat)) y_1))) fun y_4 => T.opt (ref04_Low (x.2.2.2.1, fop BinOp.mul (fop BinOp.sub y_3 y) (fop BinOp.quo (some (4607182418800017408 : Nat)) y_1))) fun y => T.ret (Ex.normal, x.1, x.2.1, y_4, y, x.2.2.2.2.1, W (x.2.2.2.2.2.1 + (1 : Int)), ())))) (T.ret (Ex.exit (0 : Nat), x.1, x.2.1, x.2.2.1, x.2.2.2.1, x.2.2.2.2.1, x.2.2.2.2.2.1, ()))
noncomputable def ref04_Through.l0 (x : ((Option Nat × Option Nat × Option Nat) × Option Nat × Option Nat × Option Nat) × ((Option Nat × Option Nat × Option Nat) × Option Nat × Option Nat × Option Nat) × (Option Nat) × (Option Nat) × Bool × Int × Unit) : Option (Ex × ((Option Nat × Option Nat × Option Nat) × Option Nat × Option Nat × Option Nat) × ((Option Nat × Option Nat × Option Nat) × Option Nat × Option Nat × Option Nat) × (Option Nat) × (Option Nat) × Bool × Int × Unit) := (iterT ref04_Through.t0 rounds x).run
theorem ref04_Through.k0 : bodies 0 (lp Tryz.f27 []) = [.loop (loopIn 0 (lp Tryz.f27 []))] ∧ WP Tryz.prog 0 (.block 0 (.loop (loopIn 0 (lp Tryz.f27 [])))) (loopS ref04_Through.L0 98 0 [.exit 0] ref04_Through.l0) :=
  loop_tree (L := ref04_Through.L0) (F := ({ quiet := (ext (ext (ext (ext (ext Xs 71 math_Inf.q) 72 ref02_Finite.q) 59 ref04_Part.q) 73 ref04_High.q) 74 ref04_Low.q), deep := noDeep } : Fns)) (D := D0) (tab := []) (t := ref04_Through.t0) mixed (quiet_ext (quiet_ext (quiet_ext (quiet_ext (quiet_ext Xok math_Inf.ok) ref02_Finite.ok) ref04_Part.ok) ref04_High.ok) ref04_Low.ok) (deep_none _) (fun _ => rfl) (by kernel_rfl) (by kernel_rfl) trivial (fun x => by kernel_rfl)
noncomputable def ref04_Through.t (x : ((Option Nat × Option Nat × Option Nat) × Option Nat × Option Nat × Option Nat) × ((Option Nat × Option Nat × Option Nat) × Option Nat × Option Nat × Option Nat)) : T ((Option Nat) × (Option Nat) × Bool) := T.opt (math_Inf (1 : Int)) fun y => T.opt (ref02_Finite x.2.1) fun y_1 => T.ite y_1 (T.opt (ref02_Finite x.2.2) fun y_2 => T.opt (ref04_Through.l0 (x.1, x.2, some (0 : Nat), y, y_2, (0 : Int), ())) fun y => T.ite (exEq y.1 (Ex.exit (0 : Nat))) (T.ite (y.2.2.2.2.2.1 && (ford y.2.2.2.1 y.2.2.2.2.1 == some Ordering.lt || ford y.2.2.2.1 y.2.2.2.2.1 == some Ordering.eq)) (T.ret (y.2.2.2.1, y.2.2.2.2.1, true)) (T.ret (some (0 : Nat), some (0 : Nat), false))) T.fail) (T.opt (ref04_Through.l0 (x.1, x.2, some (0 : Nat), y, false, (0 : Int), ())) fun y => T.ite (exEq y.1 (Ex.exit (0 : Nat))) (T.ite (y.2.2.2.2.2.1 && (ford y.2.2.2.1 y.2.2.2.2.1 == some Ordering.lt || ford y.2.2.2.1 y.2.2.2.2.1 == some Ordering.eq)) (T.ret (y.2.2.2.1, y.2.2.2.2.1, true)) (T.ret (some (0 : Nat), some (0 : Nat), false))) T.fail)
noncomputable def ref04_Through (x : ((Option Nat × Option Nat × Option Nat) × Option Nat × Option Nat × Option Nat) × ((Option Nat × Option Nat × Option Nat) × Option Nat × Option Nat × Option Nat)) : Option ((Option Nat) × (Option Nat) × Bool) := (ref04_Through.t x).run
noncomputable def ref04_Through.q : List AV → T AV := entry [TBox, TBox] (outR [.flt, .flt, .bool]) fun x => .opt (ref04_Through x) .ret
theorem ref04_Through.ok : FnOK Tryz.prog 27 ref04_Through.q :=
  entry_call (ps := [TBox, TBox]) (rs := [.flt, .flt, .bool]) (F := ({ quiet := (ext (ext (ext (ext (ext Xs 71 math_Inf.q) 72 ref02_Finite.q) 59 ref04_Part.q) 73 ref04_High.q) 74 ref04_Low.q), deep := noDeep } : Fns)) (D := D0) (S := tabS [(0, loopS ref04_Through.L0 98 0 [.exit 0] ref04_Through.l0)]) (t := ref04_Through.t) mixed (quiet_ext (quiet_ext (quiet_ext (quiet_ext (quiet_ext Xok math_Inf.ok) ref02_Finite.ok) ref04_Part.ok) ref04_High.ok) ref04_Low.ok) (deep_none _) Tryz.func27 (by kernel_rfl) (sok_fn ⟨ref04_Through.k0, trivial⟩) (by kernel_rfl) (fun x => by kernel_rfl)
end Go.Proofs.Pen

namespace Go.Proofs.Pen
open Go Go.Proofs
noncomputable def ref02_less.t (x : (Option Nat) × (Option Nat) × (Option Nat) × (Option Nat)) : T ((Option Nat)) := T.ret (fop BinOp.sub (fop BinOp.mul x.1 x.2.1) (fop BinOp.mul x.2.2.1 x.2.2.2))
noncomputable def ref02_less.q : List AV → T AV := entry [.flt, .flt, .flt, .flt] (outR [.flt]) ref02_less.t
theorem ref02_less.ok : FnOK Tryz.prog 174 ref02_less.q :=
  entry_in (ps := [.flt, .flt, .flt, .flt]) (rs := [.flt]) (F := ({ quiet := Xs, deep := noDeep } : Fns)) (D := D0) (S := tabS []) (t := ref02_less.t) mixed Xok (deep_none _) Tryz.func174 (by kernel_rfl) (sok_fn trivial) (by kernel_rfl) (fun x => by kernel_rfl)
end Go.Proofs.Pen

namespace Go.Proofs.Pen
open Go Go.Proofs
noncomputable def ref02_Cross.t (x : (Option Nat × Option Nat × Option Nat) × (Option Nat × Option Nat × Option Nat)) : T ((Option Nat × Option Nat × Option Nat)) := T.ret (fop BinOp.sub (fop BinOp.mul x.1.2.1 x.2.2.2) (fop BinOp.mul x.1.2.2 x.2.2.1), fop BinOp.sub (fop BinOp.mul x.1.2.2 x.2.1) (fop BinOp.mul x.1.1 x.2.2.2), fop BinOp.sub (fop BinOp.mul x.1.1 x.2.2.1) (fop BinOp.mul x.1.2.1 x.2.1))
noncomputable def ref02_Cross (x : (Option Nat × Option Nat × Option Nat) × (Option Nat × Option Nat × Option Nat)) : Option ((Option Nat × Option Nat × Option Nat)) := (ref02_Cross.t x).run
noncomputable def ref02_Cross.q : List AV → T AV := entry [TV, TV] (outR [TV]) fun x => .opt (ref02_Cross x) .ret
theorem ref02_Cross.ok : FnOK Tryz.prog 121 ref02_Cross.q :=
  entry_call (ps := [TV, TV]) (rs := [TV]) (F := ({ quiet := (ext Xs 174 ref02_less.q), deep := noDeep } : Fns)) (D := D0) (S := tabS []) (t := ref02_Cross.t) mixed (quiet_ext Xok ref02_less.ok) (deep_none _) Tryz.func121 (by kernel_rfl) (sok_fn trivial) (by kernel_rfl) (fun x => by kernel_rfl)
end Go.Proofs.Pen

namespace Go.Proofs.Pen
open Go Go.Proofs
noncomputable def ref02_Dot.t (x : (Option Nat × Option Nat × Option Nat) × (Option Nat × Option Nat × Option Nat)) : T ((Option Nat)) := T.ret (fop BinOp.add (fop BinOp.add (fop BinOp.mul x.1.1 x.2.1) (fop BinOp.mul x.1.2.1 x.2.2.1)) (fop BinOp.mul x.1.2.2 x.2.2.2))
noncomputable def ref02_Dot (x : (Option Nat × Option Nat × Option Nat) × (Option Nat × Option Nat × Option Nat)) : Option ((Option Nat)) := (ref02_Dot.t x).run
noncomputable def ref02_Dot.q : List AV → T AV := entry [TV, TV] (outR [.flt]) fun x => .opt (ref02_Dot x) .ret
theorem ref02_Dot.ok : FnOK Tryz.prog 122 ref02_Dot.q :=
  entry_call (ps := [TV, TV]) (rs := [.flt]) (F := ({ quiet := Xs, deep := noDeep } : Fns)) (D := D0) (S := tabS []) (t := ref02_Dot.t) mixed Xok (deep_none _) Tryz.func122 (by kernel_rfl) (sok_fn trivial) (by kernel_rfl) (fun x => by kernel_rfl)
end Go.Proofs.Pen

namespace Go.Proofs.Pen
open Go Go.Proofs
noncomputable def ref10_Meet.t (x : ((Option Nat × Option Nat × Option Nat) × (Option Nat × Option Nat × Option Nat) × Option Nat × Option Nat × Option Nat) × ((Option Nat × Option Nat × Option Nat) × Option Nat × Option Nat × Option Nat)) : T ((Option Nat) × (Option Nat) × (Option Nat) × Bool) := T.opt (ref04_Of x.1) fun y => T.opt (ref04_Through (y, x.2)) fun y => T.opt (ref02_Sub (x.1.2.1, x.1.1)) fun y_1 => T.opt (ref02_Sub (x.1.2.2, x.1.1)) fun y_2 => T.opt (ref02_Cross (x.2.2, y_2)) fun y_3 => T.opt (ref02_Dot (y_1, y_3)) fun y_4 => T.ite (!y.2.2 || !(ford y_4 (some (0 : Nat)) == some Ordering.lt || ford y_4 (some (0 : Nat)) == some Ordering.gt)) (T.ret (some (0 : Nat), some (0 : Nat), some (0 : Nat), false)) (T.opt (ref02_Sub (x.2.1, x.1.1)) fun y_5 => T.opt (ref02_Cross (y_5, y_1)) fun y_6 => T.opt (ref02_Dot (y_5, y_3)) fun y_7 => T.opt (ref02_Dot (x.2.2, y_6)) fun y_8 => T.opt (ref02_Dot (y_2, y_6)) fun y_9 => T.ite ((ford (fop BinOp.mul y_7 (fop BinOp.quo (some (4607182418800017408 : Nat)) y_4)) (some (0 : Nat)) == some Ordering.gt || ford (fop BinOp.mul y_7 (fop BinOp.quo (some (4607182418800017408 : Nat)) y_4)) (some (0 : Nat)) == some Ordering.eq) && (ford (fop BinOp.mul y_7 (fop BinOp.quo (some (4607182418800017408 : Nat)) y_4)) (some (4607182418800017408 : Nat)) == some Ordering.lt || ford (fop BinOp.mul y_7 (fop BinOp.quo (some (4607182418800017408 : Nat)) y_4)) (some (4607182418800017408 : Nat)) == some Ordering.eq) && (ford (fop BinOp.mul y_8 (fop BinOp.quo (some (4607182418800017408 : Nat)) y_4)) (some (0 : Nat)) == some Ordering.gt || ford (fop BinOp.mul y_8 (fop BinOp.quo (some (4607182418800017408 : Nat)) y_4)) (some (0 : Nat)) == some Ordering.eq) && (ford (fop BinOp.add (fop BinOp.mul y_7 (fop BinOp.quo (some (4607182418800017408 : Nat)) y_4)) (fop BinOp.mul y_8 (fop BinOp.quo (some (4607182418800017408 : Nat)) y_4))) (some (4607182418800017408 : Nat)) == some Ordering.lt || ford (fop BinOp.add (fop BinOp.mul y_7 (fop BinOp.quo (some (4607182418800017408 : Nat)) y_4)) (fop BinOp.mul y_8 (fop BinOp.quo (some (4607182418800017408 : Nat)) y_4))) (some (4607182418800017408 : Nat)) == some Ordering.eq) && (ford (fop BinOp.mul y_9 (fop BinOp.quo (some (4607182418800017408 : Nat)) y_4)) y.1 == some Ordering.gt || ford (fop BinOp.mul y_9 (fop BinOp.quo (some (4607182418800017408 : Nat)) y_4)) y.1 == some Ordering.eq) && (ford (fop BinOp.mul y_9 (fop BinOp.quo (some (4607182418800017408 : Nat)) y_4)) y.2.1 == some Ordering.lt || ford (fop BinOp.mul y_9 (fop BinOp.quo (some (4607182418800017408 : Nat)) y_4)) y.2.1 == some Ordering.eq) && ford (fop BinOp.mul y_9 (fop BinOp.quo (some (4607182418800017408 : Nat)) y_4)) (some (0 : Nat)) == some Ordering.gt) (T.ret (fop BinOp.mul y_9 (fop BinOp.quo (some (4607182418800017408 : Nat)) y_4), fop BinOp.mul y_7 (fop BinOp.quo (some (4607182418800017408 : Nat)) y_4), fop BinOp.mul y_8 (fop BinOp.quo (some (4607182418800017408 : Nat)) y_4), true)) (T.ret (some (0 : Nat), some (0 : Nat), some (0 : Nat), false)))
noncomputable def ref10_Meet (x : ((Option Nat × Option Nat × Option Nat) × (Option Nat × Option Nat × Option Nat) × Option Nat × Option Nat × Option Nat) × ((Option Nat × Option Nat × Option Nat) × Option Nat × Option Nat × Option Nat)) : Option ((Option Nat) × (Option Nat) × (Option Nat) × Bool) := (ref10_Meet.t x).run
noncomputable def ref10_Meet.q : List AV → T AV := entry [TTri, TBox] (outR [.flt, .flt, .flt, .bool]) fun x => .opt (ref10_Meet x) .ret
theorem ref10_Meet.ok : FnOK Tryz.prog 64 ref10_Meet.q :=
  entry_call (ps := [TTri, TBox]) (rs := [.flt, .flt, .flt, .bool]) (F := ({ quiet := (ext (ext (ext (ext (ext Xs 55 ref04_Of.q) 27 ref04_Through.q) 119 ref02_Sub.q) 121 ref02_Cross.q) 122 ref02_Dot.q), deep := noDeep } : Fns)) (D := D0) (S := tabS []) (t := ref10_Meet.t) mixed (quiet_ext (quiet_ext (quiet_ext (quiet_ext (quiet_ext Xok ref04_Of.ok) ref04_Through.ok) ref02_Sub.ok) ref02_Cross.ok) ref02_Dot.ok) (deep_none _) Tryz.func64 (by kernel_rfl) (sok_fn trivial) (by kernel_rfl) (fun x => by kernel_rfl)
end Go.Proofs.Pen

namespace Go.Proofs.Pen
open Go Go.Proofs
def ref13_First.L2 : List (Nat × Lay) := [(0, .val (.sl TTri)), (2, .val (.sl TI)), (4, .box TBox), (6, .box THit), (7, .box THit), (8, .val TI), (9, .val .flt), (10, .val .flt), (11, .val .flt), (12, .val .bool), (13, .val TI)]
noncomputable def ref13_First.t2 (x : (List ((Option Nat × Option Nat × Option Nat) × (Option Nat × Option Nat × Option Nat) × Option Nat × Option Nat × Option Nat)) × (List (Int)) × ((Option Nat × Option Nat × Option Nat) × Option Nat × Option Nat × Option Nat) × (Int × Option Nat × Option Nat × Option Nat) × (Int × Option Nat × Option Nat × Option Nat) × Int × (Option Nat) × (Option Nat) × (Option Nat) × Bool × Int × Unit) : T (Ex × (List ((Option Nat × Option Nat × Option Nat) × (Option Nat × Option Nat × Option Nat) × Option Nat × Option Nat × Option Nat)) × (List (Int)) × ((Option Nat × Option Nat × Option Nat) × Option Nat × Option Nat × Option Nat) × (Int × Option Nat × Option Nat × Option Nat) × (Int × Option Nat × Option Nat × Option Nat) × Int × (Option Nat) × (Option Nat) × (Option Nat) × Bool × Int × Unit) := T.ite (decide (x.2.2.2.2.2.2.2.2.2.2.1 < (↑(List.length x.2.1) : Int))) (T.ite x.2.2.2.2.2.2.2.2.2.1 (T.opt (lget x.2.1 x.2.2.2.2.2.2.2.2.2.2.1) fun y => T.ret (Ex.normal, x.1, x.2.1, x.2.2.1, x.2.2.2.1, x.2.2.2.2.1, x.2.2.2.2.2.1, x.2.2.2.2.2.2.1, x.2.2.2.2.2.2.2.1, x.2.2.2.2.2.2.2.2.1, y != x.2.2.2.2.2.1, W (x.2.2.2.2.2.2.2.2.2.2.1 + (1 : Int)), ())) (T.ret (Ex.normal, x.1, x.2.1, x.2.2.1, x.2.2.2.1, x.2.2.2.2.1, x.2.2.2.2.2.1, x.2.2.2.2.2.2.1, x.2.2.2.2.2.2.2.1, x.2.2.2.2.2.2.2.2.1, false, W (x.2.2.2.2.2.2.2.2.2.2.1 + (1 : Int)), ()))) (T.ret (Ex.exit (2 : Nat), x.1, x.2.1, x.2.2.1, x.2.2.2.1, x.2.2.2.2.1, x.2.2.2.2.2.1, x.2.2.2.2.2.2.1, x.2.2.2.2.2.2.2.1, x.2.2.2.2.2.2.2.2.1, x.2.2.2.2.2.2.2.2.2.1, x.2.2.2.2.2.2.2.2.2.2.1, ()))
noncomputable def ref13_First.l2 (x : (List ((Option Nat × Option Nat × Option Nat) × (Option Nat × Option Nat × Option Nat) × Option Nat × Option Nat × Option Nat)) × (List (Int)) × ((Option Nat × Option Nat × Option Nat) × Option Nat × Option Nat × Option Nat) × (Int × Option Nat × Option Nat × Option Nat) × (Int × Option Nat × Option Nat × Option Nat) × Int × (Option Nat) × (Option Nat) × (Option Nat) × Bool × Int × Unit) : Option (Ex × (List ((Option Nat × Option Nat × Option Nat) × (Option Nat × Option Nat × Option Nat) × Option Nat × Option Nat × Option Nat)) × (List (Int)) × ((Option Nat × Option Nat × Option Nat) × Option Nat × Option Nat × Option Nat) × (Int × Option Nat × Option Nat × Option Nat) × (Int × Option Nat × Option Nat × Option Nat) × Int × (Option Nat) × (Option Nat) × (Option Nat) × Bool × Int × Unit) := (iterT ref13_First.t2 rounds x).run
theorem ref13_First.k2 : bodies 2 (lp Tryz.f22 [0]) = [.loop (loopIn 2 (lp Tryz.f22 [0]))] ∧ WP Tryz.prog 0 (.block 2 (.loop (loopIn 2 (lp Tryz.f22 [0])))) (loopS ref13_First.L2 66 2 [.exit 2] ref13_First.l2) :=
  loop_tree (L := ref13_First.L2) (F := ({ quiet := (ext Xs 64 ref10_Meet.q), deep := noDeep } : Fns)) (D := D0) (tab := []) (t := ref13_First.t2) mixed (quiet_ext Xok ref10_Meet.ok) (deep_none _) (fun _ => rfl) (by kernel_rfl) (by kernel_rfl) trivial (fun x => by kernel_rfl)
def ref13_First.L0 : List (Nat × Lay) := [(0, .val (.sl TTri)), (2, .val (.sl TI)), (4, .box TBox), (6, .box THit), (7, .box THit), (8, .val TI)]
noncomputable def ref13_First.t0 (x : (List ((Option Nat × Option Nat × Option Nat) × (Option Nat × Option Nat × Option Nat) × Option Nat × Option Nat × Option Nat)) × (List (Int)) × ((Option Nat × Option Nat × Option Nat) × Option Nat × Option Nat × Option Nat) × (Int × Option Nat × Option Nat × Option Nat) × (Int × Option Nat × Option Nat × Option Nat) × Int × Unit) : T (Ex × (List ((Option Nat × Option Nat × Option Nat) × (Option Nat × Option Nat × Option Nat) × Option Nat × Option Nat × Option Nat)) × (List (Int)) × ((Option Nat × Option Nat × Option Nat) × Option Nat × Option Nat × Option Nat) × (Int × Option Nat × Option Nat × Option Nat) × (Int × Option Nat × Option Nat × Option Nat) × Int × Unit) := T.ite (decide (x.2.2.2.2.2.1 ≥ (0 : Int))) (T.opt (lget x.1 x.2.2.2.2.2.1) fun y => T.opt (ref10_Meet (y, x.2.2.1)) fun y => T.opt (ref13_First.l2 (x.1, x.2.1, x.2.2.1, x.2.2.2.1, x.2.2.2.2.1, x.2.2.2.2.2.1, y.1, y.2.1, y.2.2.1, y.2.2.2, (0 : Int), ())) fun y => T.ite (exEq y.1 (Ex.exit (2 : Nat))) (T.ite (y.2.2.2.2.2.2.2.2.2.2.1 && (decide (y.2.2.2.2.2.1.1 < (0 : Int)) || (ford y.2.2.2.2.2.2.2.1 y.2.2.2.2.2.1.2.1 == some Ordering.lt || ford y.2.2.2.2.2.2.2.1 y.2.2.2.2.2.1.2.1 == some Ordering.eq))) (T.ret (Ex.normal, y.2.1, y.2.2.1, y.2.2.2.1, y.2.2.2.2.1, (y.2.2.2.2.2.2.1, y.2.2.2.2.2.2.2.1, y.2.2.2.2.2.2.2.2.1, y.2.2.2.2.2.2.2.2.2.1), W (y.2.2.2.2.2.2.1 - (1 : Int)), ())) (T.ret (Ex.normal, y.2.1, y.2.2.1, y.2.2.2.1, y.2.2.2.2.1, y.2.2.2.2.2.1, W (y.2.2.2.2.2.2.1 - (1 : Int)), ()))) T.fail) (T.ret (Ex.exit (0 : Nat), x.1, x.2.1, x.2.2.1, x.2.2.2.1, x.2.2.2.2.1, x.2.2.2.2.2.1, ()))
noncomputable def ref13_First.l0 (x : (List ((Option Nat × Option Nat × Option Nat) × (Option Nat × Option Nat × Option Nat) × Option Nat × Option Nat × Option Nat)) × (List (Int)) × ((Option Nat × Option Nat × Option Nat) × Option Nat × Option Nat × Option Nat) × (Int × Option Nat × Option Nat × Option Nat) × (Int × Option Nat × Option Nat × Option Nat) × Int × Unit) : Option (Ex × (List ((Option Nat × Option Nat × Option Nat) × (Option Nat × Option Nat × Option Nat) × Option Nat × Option Nat × Option Nat)) × (List (Int)) × ((Option Nat × Option Nat × Option Nat) × Option Nat × Option Nat × Option Nat) × (Int × Option Nat × Option Nat × Option Nat) × (Int × Option Nat × Option Nat × Option Nat) × Int × Unit) := (iterT ref13_First.t0 rounds x).run
theorem ref13_First.k0 : bodies 0 (lp Tryz.f22 []) = [.loop (loopIn 0 (lp Tryz.f22 []))] ∧ WP Tryz.prog 0 (.block 0 (.loop (loopIn 0 (lp Tryz.f22 [])))) (loopS ref13_First.L0 66 0 [.exit 0] ref13_First.l0) :=
  loop_tree (L := ref13_First.L0) (F := ({ quiet := (ext Xs 64 ref10_Meet.q), deep := noDeep } : Fns)) (D := D0) (tab := [(2, loopS ref13_First.L2 66 2 [.exit 2] ref13_First.l2)]) (t := ref13_First.t0) mixed (quiet_ext Xok ref10_Meet.ok) (deep_none _) (fun _ => rfl) (by kernel_rfl) (by kernel_rfl) ⟨ref13_First.k2, trivial⟩ (fun x => by kernel_rfl)
noncomputable def ref13_First.t (x : (List ((Option Nat × Option Nat × Option Nat) × (Option Nat × Option Nat × Option Nat) × Option Nat × Option Nat × Option Nat)) × ((Option Nat × Option Nat × Option Nat) × Option Nat × Option Nat × Option Nat) × (List (Int))) : T ((Int × Option Nat × Option Nat × Option Nat)) := T.opt (ref13_First.l0 (x.1, x.2.2, x.2.1, ((0 : Int), some (0 : Nat), some (0 : Nat), some (0 : Nat)), ((-1 : Int), some (0 : Nat), some (0 : Nat), some (0 : Nat)), W ((↑(List.length x.1) : Int) - (1 : Int)), ())) fun y => T.ite (exEq y.1 (Ex.exit (0 : Nat))) (T.ret y.2.2.2.2.2.1) T.fail
noncomputable def ref13_First (x : (List ((Option Nat × Option Nat × Option Nat) × (Option Nat × Option Nat × Option Nat) × Option Nat × Option Nat × Option Nat)) × ((Option Nat × Option Nat × Option Nat) × Option Nat × Option Nat × Option Nat) × (List (Int))) : Option ((Int × Option Nat × Option Nat × Option Nat)) := (ref13_First.t x).run
noncomputable def ref13_First.q : List AV → T AV := entry [(.sl TTri), TBox, (.sl TI)] (outR [THit]) fun x => .opt (ref13_First x) .ret
theorem ref13_First.ok : FnOK Tryz.prog 22 ref13_First.q :=
  entry_call (ps := [(.sl TTri), TBox, (.sl TI)]) (rs := [THit]) (F := ({ quiet := (ext Xs 64 ref10_Meet.q), deep := noDeep } : Fns)) (D := D0) (S := tabS [(0, loopS ref13_First.L0 66 0 [.exit 0] ref13_First.l0)]) (t := ref13_First.t) mixed (quiet_ext Xok ref10_Meet.ok) (deep_none _) Tryz.func22 (by kernel_rfl) (sok_fn ⟨ref13_First.k0, trivial⟩) (by kernel_rfl) (fun x => by kernel_rfl)
end Go.Proofs.Pen

namespace Go.Proofs.Pen
open Go Go.Proofs
def ref13_Any.L2 : List (Nat × Lay) := [(0, .val (.sl TTri)), (2, .val .flt), (3, .val (.sl TI)), (5, .box TBox), (8, .val .bool), (9, .val TI), (10, .val .flt), (13, .val .bool), (14, .val TI)]
noncomputable def ref13_Any.t2 (x : (List ((Option Nat × Option Nat × Option Nat) × (Option Nat × Option Nat × Option Nat) × Option Nat × Option Nat × Option Nat)) × (Option Nat) × (List (Int)) × ((Option Nat × Option Nat × Option Nat) × Option Nat × Option Nat × Option Nat) × Bool × Int × (Option Nat) × Bool × Int × Unit) : T (Ex × (List ((Option Nat × Option Nat × Option Nat) × (Option Nat × Option Nat × Option Nat) × Option Nat × Option Nat × Option Nat)) × (Option Nat) × (List (Int)) × ((Option Nat × Option Nat × Option Nat) × Option Nat × Option Nat × Option Nat) × Bool × Int × (Option Nat) × Bool × Int × Unit) := T.ite (decide (x.2.2.2.2.2.2.2.2.1 < (↑(List.length x.2.2.1) : Int))) (T.ite x.2.2.2.2.2.2.2.1 (T.opt (lget x.2.2.1 x.2.2.2.2.2.2.2.2.1) fun y => T.ret (Ex.normal, x.1, x.2.1, x.2.2.1, x.2.2.2.1, x.2.2.2.2.1, x.2.2.2.2.2.1, x.2.2.2.2.2.2.1, y != x.2.2.2.2.2.1, W (x.2.2.2.2.2.2.2.2.1 + (1 : Int)), ())) (T.ret (Ex.normal, x.1, x.2.1, x.2.2.1, x.2.2.2.1, x.2.2.2.2.1, x.2.2.2.2.2.1, x.2.2.2.2.2.2.1, false, W (x.2.2.2.2.2.2.2.2.1 + (1 : Int)), ()))) (T.ret (Ex.exit (2 : Nat), x.1, x.2.1, x.2.2.1, x.2.2.2.1, x.2.2.2.2.1, x.2.2.2.2.2.1, x.2.2.2.2.2.2.1, x.2.2.2.2.2.2.2.1, x.2.2.2.2.2.2.2.2.1, ()))
noncomputable def ref13_Any.l2 (x : (List ((Option Nat × Option Nat × Option Nat) × (Option Nat × Option Nat × Option Nat) × Option Nat × Option Nat × Option Nat)) × (Option Nat) × (List (Int)) × ((Option Nat × Option Nat × Option Nat) × Option Nat × Option Nat × Option Nat) × Bool × Int × (Option Nat) × Bool × Int × Unit) : Option (Ex × (List ((Option Nat × Option Nat × Option Nat) × (Option Nat × Option Nat × Option Nat) × Option Nat × Option Nat × Option Nat)) × (Option Nat) × (List (Int)) × ((Option Nat × Option Nat × Option Nat) × Option Nat × Option Nat × Option Nat) × Bool × Int × (Option Nat) × Bool × Int × Unit) := (iterT ref13_Any.t2 rounds x).run
theorem ref13_Any.k2 : bodies 2 (lp Tryz.f23 [0]) = [.loop (loopIn 2 (lp Tryz.f23 [0]))] ∧ WP Tryz.prog 0 (.block 2 (.loop (loopIn 2 (lp Tryz.f23 [0])))) (loopS ref13_Any.L2 53 2 [.exit 2] ref13_Any.l2) :=
  loop_tree (L := ref13_Any.L2) (F := ({ quiet := (ext Xs 64 ref10_Meet.q), deep := noDeep } : Fns)) (D := D0) (tab := []) (t := ref13_Any.t2) mixed (quiet_ext Xok ref10_Meet.ok) (deep_none _) (fun _ => rfl) (by kernel_rfl) (by kernel_rfl) trivial (fun x => by kernel_rfl)
def ref13_Any.L0 : List (Nat × Lay) := [(0, .val (.sl TTri)), (2, .val .flt), (3, .val (.sl TI)), (5, .box TBox), (8, .val .bool), (9, .val TI)]
noncomputable def ref13_Any.t0 (x : (List ((Option Nat × Option Nat × Option Nat) × (Option Nat × Option Nat × Option Nat) × Option Nat × Option Nat × Option Nat)) × (Option Nat) × (List (Int)) × ((Option Nat × Option Nat × Option Nat) × Option Nat × Option Nat × Option Nat) × Bool × Int × Unit) : T (Ex × (List ((Option Nat × Option Nat × Option Nat) × (Option Nat × Option Nat × Option Nat) × Option Nat × Option Nat × Option Nat)) × (Option Nat) × (List (Int)) × ((Option Nat × Option Nat × Option Nat) × Option Nat × Option Nat × Option Nat) × Bool × Int × Unit) := T.ite (decide (x.2.2.2.2.2.1 < (↑(List.length x.1) : Int))) (T.opt (lget x.1 x.2.2.2.2.2.1) fun y => T.opt (ref10_Meet (y, x.2.2.2.1)) fun y => T.opt (ref13_Any.l2 (x.1, x.2.1, x.2.2.1, x.2.2.2.1, x.2.2.2.2.1, x.2.2.2.2.2.1, y.1, y.2.2.2, (0 : Int), ())) fun y => T.ite (exEq y.1 (Ex.exit (2 : Nat))) (T.ite (y.2.2.2.2.2.2.2.2.1 && ford y.2.2.2.2.2.2.2.1 y.2.2.1 == some Ordering.lt) (T.ret (Ex.ret, y.2.1, y.2.2.1, y.2.2.2.1, y.2.2.2.2.1, true, y.2.2.2.2.2.2.1, ())) (T.ret (Ex.normal, y.2.1, y.2.2.1, y.2.2.2.1, y.2.2.2.2.1, y.2.2.2.2.2.1, W (y.2.2.2.2.2.2.1 + (1 : Int)), ()))) T.fail) (T.ret (Ex.exit (0 : Nat), x.1, x.2.1, x.2.2.1, x.2.2.2.1, x.2.2.2.2.1, x.2.2.2.2.2.1, ()))
noncomputable def ref13_Any.l0 (x : (List ((Option Nat × Option Nat × Option Nat) × (Option Nat × Option Nat × Option Nat) × Option Nat × Option Nat × Option Nat)) × (Option Nat) × (List (Int)) × ((Option Nat × Option Nat × Option Nat) × Option Nat × Option Nat × Option Nat) × Bool × Int × Unit) : Option (Ex × (List ((Option Nat × Option Nat × Option Nat) × (Option Nat × Option Nat × Option Nat) × Option Nat × Option Nat × Option Nat)) × (Option Nat) × (List (Int)) × ((Option Nat × Option Nat × Option Nat) × Option Nat × Option Nat × Option Nat) × Bool × Int × Unit) := (iterT ref13_Any.t0 rounds x).run
theorem ref13_Any.k0 : bodies 0 (lp Tryz.f23 []) = [.loop (loopIn 0 (lp Tryz.f23 []))] ∧ WP Tryz.prog 0 (.block 0 (.loop (loopIn 0 (lp Tryz.f23 [])))) (loopS ref13_Any.L0 53 0 [.exit 0, .ret] ref13_Any.l0) :=
  loop_tree (L := ref13_Any.L0) (F := ({ quiet := (ext Xs 64 ref10_Meet.q), deep := noDeep } : Fns)) (D := D0) (tab := [(2, loopS ref13_Any.L2 53 2 [.exit 2] ref13_Any.l2)]) (t := ref13_Any.t0) mixed (quiet_ext Xok ref10_Meet.ok) (deep_none _) (fun _ => rfl) (by kernel_rfl) (by kernel_rfl) ⟨ref13_Any.k2, trivial⟩ (fun x => by kernel_rfl)
noncomputable def ref13_Any.t (x : (List ((Option Nat × Option Nat × Option Nat) × (Option Nat × Option Nat × Option Nat) × Option Nat × Option Nat × Option Nat)) × ((Option Nat × Option Nat × Option Nat) × Option Nat × Option Nat × Option Nat) × (Option Nat) × (List (Int))) : T (Bool) := T.opt (ref13_Any.l0 (x.1, x.2.2.1, x.2.2.2, x.2.1, false, (0 : Int), ())) fun y => T.ite (exEq y.1 (Ex.exit (0 : Nat))) (T.ret false) (T.ite (exEq y.1 Ex.ret) (T.ret y.2.2.2.2.2.1) T.fail)
noncomputable def ref13_Any (x : (List ((Option Nat × Option Nat × Option Nat) × (Option Nat × Option Nat × Option Nat) × Option Nat × Option Nat × Option Nat)) × ((Option Nat × Option Nat × Option Nat) × Option Nat × Option Nat × Option Nat) × (Option Nat) × (List (Int))) : Option (Bool) := (ref13_Any.t x).run
noncomputable def ref13_Any.q : List AV → T AV := entry [(.sl TTri), TBox, .flt, (.sl TI)] (outR [.bool]) fun x => .opt (ref13_Any x) .ret
theorem ref13_Any.ok : FnOK Tryz.prog 23 ref13_Any.q :=
  entry_call (ps := [(.sl TTri), TBox, .flt, (.sl TI)]) (rs := [.bool]) (F := ({ quiet := (ext Xs 64 ref10_Meet.q), deep := noDeep } : Fns)) (D := D0) (S := tabS [(0, loopS ref13_Any.L0 53 0 [.exit 0, .ret] ref13_Any.l0)]) (t := ref13_Any.t) mixed (quiet_ext Xok ref10_Meet.ok) (deep_none _) Tryz.func23 (by kernel_rfl) (sok_fn ⟨ref13_Any.k0, trivial⟩) (by kernel_rfl) (fun x => by kernel_rfl)
end Go.Proofs.Pen

namespace Go.Proofs.Pen
open Go Go.Proofs

abbrev Ht := Int × Fl × Fl × Fl

abbrev f1 : Fl := some 4607182418800017408
def vCross (a b : V3) : V3 := (fop .sub (fop .mul a.2.1 b.2.2) (fop .mul a.2.2 b.2.1), fop .sub (fop .mul a.2.2 b.1) (fop .mul a.1 b.2.2), fop .sub (fop .mul a.1 b.2.1) (fop .mul a.2.1 b.1))
def vDot (a b : V3) : Fl := fop .add (fop .add (fop .mul a.1 b.1) (fop .mul a.2.1 b.2.1)) (fop .mul a.2.2 b.2.2)
def fNum (a : Fl) : Bool := kle (some (-9218868437227405311)) (okey a) && kle (okey a) (some 9218868437227405311)
def vNum (a : V3) : Bool := fNum a.1 && fNum a.2.1 && fNum a.2.2

theorem okey_max : okey (some 9218868437227405311) = some 9218868437227405311 := okey_lit (by decide) (by decide)
theorem okey_min : okey (some 18442240474082181119) = some (-9218868437227405311) := okey_lit (by decide) (by decide)
theorem okey_1 : okey f1 = some 4607182418800017408 := okey_lit (by decide) (by decide)
theorem num_range (x : Fl) : ((ford x (some 18442240474082181119) == some .gt || ford x (some 18442240474082181119) == some .eq) && (ford x (some 9218868437227405311) == some .lt || ford x (some 9218868437227405311) == some .eq)) = fNum x := by
  rw [ford_ge, ford_le, okey_max, okey_min]; rfl

theorem sub_self_fin {w : Nat} (h : frung w < 9218868437227405312) : FF.sub w w = some 0 := by
  obtain ⟨m, p, e, hp, _⟩ := read_val w h
  unfold Ieee.Format.sub
  rw [e]
  simp only [Ieee.Datum.opposite, Ieee.Datum.sum]
  have hs : ∀ s : Bool, Ieee.signed s m (p - min p p).toNat + Ieee.signed (!s) m (p - min p p).toNat = 0 := fun s => by
    rw [signed_eq, signed_eq]
    cases s <;> simp only [sg, Bool.not_true, Bool.not_false, if_true, Bool.false_eq_true, if_false] <;> omega
  simp only [hs]
  cases fsgn w <;> rfl
theorem num_sub (x : Fl) : (ford (fop .sub x x) (some 0) == some .eq) = fNum x := by
  cases x with
  | none => rfl
  | some w =>
    show (ford (FF.sub w w) (some 0) == some .eq) = _
    unfold fNum
    rcases Nat.lt_trichotomy (frung w) 9218868437227405312 with h | h | h
    · rw [sub_self_fin h, okey_lit (Nat.le_of_lt h) rfl]
      unfold fkey sg kle
      rw [show (ford (some 0) (some 0) == some Ordering.eq) = true by decide +kernel]
      symm
      rw [Bool.and_eq_true, decide_eq_true_eq, decide_eq_true_eq]
      split <;> omega
    · have e : FF.sub w w = none := by
        unfold Ieee.Format.sub
        rw [read_inf w h]
        cases fsgn w <;> rfl
      rw [e, okey_lit (Nat.le_of_eq h) rfl]
      unfold fkey sg kle
      rw [h]
      cases fsgn w <;> rfl
    · obtain ⟨t, e⟩ := read_noN w h
      have e : FF.sub w w = none := by
        unfold Ieee.Format.sub
        rw [e]; rfl
      have e2 : okey (some w) = none := by simp only [okey]; rw [if_neg (by omega)]
      rw [e, e2]; rfl

theorem ref02_Sub_eq (a b : V3) : ref02_Sub (a, b) = some (vSub a b) := rfl
theorem vec_Cross_eq (a b : V3) : vec_Cross (a, b) = some (vCross a b) := rfl
theorem ref02_Cross_eq (a b : V3) : ref02_Cross (a, b) = some (vCross a b) := rfl
theorem vec_Dot_eq (a b : V3) : vec_Dot (a, b) = some (vDot a b) := rfl
theorem ref02_Dot_eq (a b : V3) : ref02_Dot (a, b) = some (vDot a b) := rfl
theorem vec_Finite_eq (a : V3) : vec_Finite a = some (vNum a) := by
  unfold vec_Finite vec_Finite.t vNum
  simp only [tr_ite, tr_ret, num_range]
  cases fNum a.1 <;> cases fNum a.2.1 <;> rfl
theorem ref02_Finite_eq (a : V3) : ref02_Finite a = some (vNum a) := by
  unfold ref02_Finite ref02_Finite.t vNum
  simp only [tr_ite, tr_ret, num_sub]
  cases fNum a.1 <;> cases fNum a.2.1 <;> rfl

def slab (lo hi o d : Fl) (x : Fl × Fl) : Option (Fl × Fl) :=
  if feq d f0 then (if fle lo o && fle o hi then some x else none)
  else if flt (fop .quo f1 d) f0 then some (fHigh x.1 (fop .mul (fop .sub hi o) (fop .quo f1 d)), fLow x.2 (fop .mul (fop .sub lo o) (fop .quo f1 d)))
  else some (fHigh x.1 (fop .mul (fop .sub lo o) (fop .quo f1 d)), fLow x.2 (fop .mul (fop .sub hi o) (fop .quo f1 d)))
def part3 (a : V3) (k : Nat) : Fl := match k with
  | 0 => a.1
  | 1 => a.2.1
  | _ => a.2.2
def slabs (b r : Bx) (k : Nat) (x : Fl × Fl) : Option (Fl × Fl) := slab (part3 b.1 k) (part3 b.2 k) (part3 r.1 k) (part3 r.2 k) x
def thru (b r : Bx) : Option (Fl × Fl) :=
  if vNum r.1 && vNum r.2 then ((slabs b r 0 (f0, fInf)).bind (slabs b r 1)).bind fun x => (slabs b r 2 x).bind fun x => if fle x.1 x.2 then some x else none
  else none
def thr (b r : Bx) : Fl × Fl × Bool := match thru b r with
  | some x => (x.1, x.2, true)
  | none => (f0, f0, false)

theorem vec_Part3_eq (a : V3) {k : Nat} (h : k < 3) : vec_Part (a, (k : Int)) = some (part3 a k) := by
  rcases k with _ | _ | _ | k
  · rfl
  · rfl
  · rfl
  · omega
theorem ref04_Part3_eq (a : V3) {k : Nat} (h : k < 3) : ref04_Part (a, (k : Int)) = some (part3 a k) := by
  rcases k with _ | _ | _ | k
  · rfl
  · rfl
  · rfl
  · omega

theorem Through_step (b r : Bx) (n f : Fl) (q1 q2 : Fl) (q3 : Bool) {k : Nat} (h : k < 3) :
    (box_Through.t0 (b, r, q1, q2, q3, n, f, (k : Int), ())).run = some (match slabs b r k (n, f) with
      | some x => (.normal, b, r, q1, q2, q3, x.1, x.2, ((k + 1 : Nat) : Int), ())
      | none => (.ret, b, r, f0, f0, false, n, f, (k : Int), ())) := by
  unfold box_Through.t0 slabs slab
  dsimp only
  simp only [tr_ite, tr_opt, tr_ret, vec_Part3_eq _ h, Option.bind_some, box_more_eq, box_less_eq, W_succ (show k < 1000 by omega)]
  rw [if_pos (decide_eq_true (by omega))]
  by_cases h1 : feq (part3 r.2 k) f0 = true
  · rw [if_pos h1, if_pos (show (ford (part3 r.2 k) (some 0) == some Ordering.eq) = true from h1)]
    by_cases h2 : (fle (part3 b.1 k) (part3 r.1 k) && fle (part3 r.1 k) (part3 b.2 k)) = true
    · rw [if_pos h2, if_neg (by rw [Bool.not_eq_true']; intro h3; have h3 : (fle (part3 b.1 k) (part3 r.1 k) && fle (part3 r.1 k) (part3 b.2 k)) = false := h3; rw [h2] at h3; cases h3)]
    · have h3 : (fle (part3 b.1 k) (part3 r.1 k) && fle (part3 r.1 k) (part3 b.2 k)) = false := by simpa using h2
      rw [if_neg h2, if_pos (by rw [Bool.not_eq_true']; exact h3)]
  · rw [if_neg h1, if_neg (show ¬ (ford (part3 r.2 k) (some 0) == some Ordering.eq) = true from h1)]
    by_cases h2 : flt (fop .quo f1 (part3 r.2 k)) f0 = true
    · rw [if_pos h2, if_pos (show (ford (fop .quo f1 (part3 r.2 k)) (some 0) == some Ordering.lt) = true from h2)]
    · rw [if_neg h2, if_neg (show ¬ (ford (fop .quo f1 (part3 r.2 k)) (some 0) == some Ordering.lt) = true from h2)]
theorem Through_end (b r : Bx) (n f : Fl) (q1 q2 : Fl) (q3 : Bool) :
    (box_Through.t0 (b, r, q1, q2, q3, n, f, ((3 : Nat) : Int), ())).run = some (.exit 0, b, r, q1, q2, q3, n, f, ((3 : Nat) : Int), ()) := rfl

theorem box_Through_eq (b r : Bx) : box_Through (b, r) = some (thr b r) := by
  unfold box_Through box_Through.t thr thru
  simp only [tr_opt, tr_ite, tr_ret, vec_Finite_eq, Option.bind_some, math_Inf_eq, Bool.not_eq_true']
  cases hA : vNum r.1
  · simp
  cases hB : vNum r.2
  · simp
  simp only [Bool.true_and, if_true, Bool.true_eq_false, if_false]
  obtain ⟨k, hk⟩ : ∃ k, rounds = k + 4 := ⟨rounds - 4, by unfold rounds; omega⟩
  unfold box_Through.l0
  rw [hk]
  have s0 : (box_Through.t0 (b, r, some 0, some 0, false, some 0, fInf, (0 : Int), ())).run = _ := Through_step b r f0 fInf f0 f0 false (k := 0) (by omega)
  cases e0 : slabs b r 0 (f0, fInf) with
  | none =>
    rw [e0] at s0
    rw [iter_step s0]; rfl
  | some x0 =>
    rw [e0] at s0
    rw [iter_step s0]
    have s1 := Through_step b r x0.1 x0.2 f0 f0 false (k := 1) (by omega)
    simp only [Option.bind_some]
    cases e1 : slabs b r 1 x0 with
    | none =>
      rw [show ((x0.1, x0.2) : Fl × Fl) = x0 from rfl, e1] at s1
      rw [iter_step s1]; rfl
    | some x1 =>
      rw [show ((x0.1, x0.2) : Fl × Fl) = x0 from rfl, e1] at s1
      rw [iter_step s1]
      have s2 := Through_step b r x1.1 x1.2 f0 f0 false (k := 2) (by omega)
      simp only [Option.bind_some]
      cases e2 : slabs b r 2 x1 with
      | none =>
        rw [show ((x1.1, x1.2) : Fl × Fl) = x1 from rfl, e2] at s2
        rw [iter_step s2]; rfl
      | some x2 =>
        rw [show ((x1.1, x1.2) : Fl × Fl) = x1 from rfl, e2] at s2
        rw [iter_step s2, iter_step (Through_end b r x2.1 x2.2 f0 f0 false)]
        simp only [Option.bind_some]
        have hx : exEq (Ex.exit 0) (Ex.exit 0) = true := rfl
        rw [if_pos hx]
        show (if fle x2.1 x2.2 = false then _ else _) = _
        cases fle x2.1 x2.2 <;> rfl

theorem RThrough_step (b r : Bx) (n f : Fl) {k : Nat} (h : k < 3) :
    (ref04_Through.t0 (b, r, n, f, true, (k : Int), ())).run = some (match slabs b r k (n, f) with
      | some x => (.normal, b, r, x.1, x.2, true, ((k + 1 : Nat) : Int), ())
      | none => (.normal, b, r, n, f, false, ((k + 1 : Nat) : Int), ())) := by
  unfold ref04_Through.t0 slabs slab
  dsimp only
  simp only [tr_ite, tr_opt, tr_ret, ref04_Part3_eq _ h, Option.bind_some, ref04_High_eq, ref04_Low_eq, W_succ (show k < 1000 by omega)]
  rw [if_pos (by rw [Bool.and_true]; exact decide_eq_true (by omega))]
  by_cases h1 : feq (part3 r.2 k) f0 = true
  · rw [if_pos h1, if_pos (show (ford (part3 r.2 k) (some 0) == some Ordering.eq) = true from h1)]
    show some (Ex.normal, b, r, n, f, (fle (part3 b.1 k) (part3 r.1 k) && fle (part3 r.1 k) (part3 b.2 k)), ((k + 1 : Nat) : Int), ()) = _
    cases (fle (part3 b.1 k) (part3 r.1 k) && fle (part3 r.1 k) (part3 b.2 k)) <;> rfl
  · rw [if_neg h1, if_neg (show ¬ (ford (part3 r.2 k) (some 0) == some Ordering.eq) = true from h1)]
    by_cases h2 : flt (fop .quo f1 (part3 r.2 k)) f0 = true
    · rw [if_pos h2, if_pos (show (ford (fop .quo f1 (part3 r.2 k)) (some 0) == some Ordering.lt) = true from h2)]
    · rw [if_neg h2, if_neg (show ¬ (ford (fop .quo f1 (part3 r.2 k)) (some 0) == some Ordering.lt) = true from h2)]
theorem RThrough_end (b r : Bx) (n f : Fl) (ok : Bool) (k : Nat) (h : ok = false ∨ k = 3) :
    (ref04_Through.t0 (b, r, n, f, ok, (k : Int), ())).run = some (.exit 0, b, r, n, f, ok, (k : Int), ()) := by
  unfold ref04_Through.t0
  dsimp only
  rw [tr_ite, if_neg, tr_ret]
  rcases h with rfl | rfl
  · simp
  · simp

theorem ref04_Through_eq (b r : Bx) : ref04_Through (b, r) = some (thr b r) := by
  unfold ref04_Through ref04_Through.t thr thru
  simp only [tr_opt, tr_ite, tr_ret, ref02_Finite_eq, Option.bind_some, math_Inf_eq]
  have hx : exEq (Ex.exit 0) (Ex.exit 0) = true := rfl
  obtain ⟨k, hk⟩ : ∃ k, rounds = k + 4 := ⟨rounds - 4, by unfold rounds; omega⟩
  have stop : ∀ (n f : Fl) (j m : Nat), (iterT ref04_Through.t0 (m + 1) (b, r, n, f, false, (j : Int), ())).run = some (.exit 0, b, r, n, f, false, (j : Int), ()) := fun n f j m => by
    rw [iter_step (RThrough_end b r n f false j (.inl rfl))]
  have no : ref04_Through.l0 (b, r, some 0, fInf, false, 0, ()) = some (.exit 0, b, r, some 0, fInf, false, 0, ()) := by
    unfold ref04_Through.l0
    rw [hk]; exact stop f0 fInf 0 (k + 3)
  cases hA : vNum r.1
  · rw [if_neg (by simp), no]
    simp [hx]
  cases hB : vNum r.2
  · rw [if_pos rfl, no]
    simp [hx]
  rw [if_pos rfl]
  simp only [Bool.true_and, if_true]
  unfold ref04_Through.l0
  rw [hk]
  have s0 : (ref04_Through.t0 (b, r, some 0, fInf, true, (0 : Int), ())).run = _ := RThrough_step b r f0 fInf (k := 0) (by omega)
  cases e0 : slabs b r 0 (f0, fInf) with
  | none =>
    rw [e0] at s0
    rw [iter_step s0, stop]
    simp [hx]
  | some x0 =>
    rw [e0] at s0
    rw [iter_step s0]
    have s1 := RThrough_step b r x0.1 x0.2 (k := 1) (by omega)
    simp only [Option.bind_some]
    cases e1 : slabs b r 1 x0 with
    | none =>
      rw [show ((x0.1, x0.2) : Fl × Fl) = x0 from rfl, e1] at s1
      rw [iter_step s1, stop]
      simp [hx]
    | some x1 =>
      rw [show ((x0.1, x0.2) : Fl × Fl) = x0 from rfl, e1] at s1
      rw [iter_step s1]
      have s2 := RThrough_step b r x1.1 x1.2 (k := 2) (by omega)
      simp only [Option.bind_some]
      cases e2 : slabs b r 2 x1 with
      | none =>
        rw [show ((x1.1, x1.2) : Fl × Fl) = x1 from rfl, e2] at s2
        rw [iter_step s2, stop]
        simp [hx]
      | some x2 =>
        rw [show ((x1.1, x1.2) : Fl × Fl) = x1 from rfl, e2] at s2
        rw [iter_step s2, iter_step (RThrough_end b r x2.1 x2.2 true 3 (.inr rfl))]
        simp only [Option.bind_some]
        rw [if_pos hx]
        show (if fle x2.1 x2.2 = true then _ else _) = _
        cases fle x2.1 x2.2 <;> rfl

def inTri (u v t : Fl) (x : Fl × Fl) : Bool := (fge u f0 && fle u f1 && fge v f0 && fle (fop .add u v) f1) && (fge t x.1 && fle t x.2 && fgt t f0)
def meetAt (t : Tr) (r : Bx) (x : Fl × Fl) : Option V3 :=
  let e := vSub t.2.1 t.1
  let f := vSub t.2.2 t.1
  let p := vCross r.2 f
  let det := vDot e p
  if feq det f0 || !feq det det then none else
  let i := fop .quo f1 det
  let s := vSub r.1 t.1
  let q := vCross s e
  let h := fop .mul (vDot f q) i
  let u := fop .mul (vDot s p) i
  let v := fop .mul (vDot r.2 q) i
  if inTri u v h x then some (h, u, v) else none
def meet (t : Tr) (r : Bx) : Option V3 := (thru (bOf t) r).bind (meetAt t r)

theorem det_eq (d : Fl) : (!(ford d (some 0) == some .lt || ford d (some 0) == some .gt)) = (feq d f0 || !feq d d) := by
  unfold feq
  rw [ford_lt, ford_gt, ford_eqk, ford_eqk, okey_0]
  cases okey d with
  | none => rfl
  | some i =>
    simp only [klt, keq]
    by_cases h : i = 0
    · subst h; rfl
    · rw [show decide (i = 0) = false from decide_eq_false h]
      rcases Int.lt_or_gt_of_ne h with h1 | h1
      · rw [decide_eq_true h1]; simp
      · rw [show decide (0 < i) = true from decide_eq_true h1]; simp

theorem tri_Meet_1_eq (a b : V3) (k : Fl) : tri_Meet_1 (a, b, k) = some (fop .mul (vDot a b) k) := rfl
theorem tri_Edges_eq (t : Tr) : tri_Edges t = some (vSub t.2.1 t.1, vSub t.2.2 t.1) := rfl

theorem tri_Meet_eq (t : Tr) (r : Bx) : tri_Meet (t, r) = some (match meet t r with
    | some h => ((0, h), true)
    | none => ((-1, f0, f0, f0), false)) := by
  unfold tri_Meet tri_Meet.t meet
  simp only [tr_opt, tr_ite, tr_ret, box_Of_eq, box_Through_eq, Option.bind_some, tri_Edges_eq, vec_Cross_eq, vec_Dot_eq, vec_Sub_eq, tri_Meet_1_eq]
  unfold thr
  cases thru (bOf t) r with
  | none => rfl
  | some x =>
    simp only [Option.bind_some, Bool.not_true, Bool.false_eq_true, if_false]
    unfold meetAt
    dsimp only
    show (if (feq (vDot (vSub t.2.1 t.1) (vCross r.2 (vSub t.2.2 t.1))) f0 || !feq (vDot (vSub t.2.1 t.1) (vCross r.2 (vSub t.2.2 t.1))) (vDot (vSub t.2.1 t.1) (vCross r.2 (vSub t.2.2 t.1)))) = true then _ else _) = _
    generalize hd : vDot (vSub t.2.1 t.1) (vCross r.2 (vSub t.2.2 t.1)) = d
    cases (feq d f0 || !feq d d) with
    | true => rfl
    | false =>
      simp only [Bool.false_eq_true, if_false]
      generalize fop .mul (vDot (vSub t.2.2 t.1) (vCross (vSub r.1 t.1) (vSub t.2.1 t.1))) (fop .quo f1 d) = h
      generalize fop .mul (vDot (vSub r.1 t.1) (vCross r.2 (vSub t.2.2 t.1))) (fop .quo f1 d) = u
      generalize fop .mul (vDot r.2 (vCross (vSub r.1 t.1) (vSub t.2.1 t.1))) (fop .quo f1 d) = v
      show (if (!(fge u f0 && fle u f1 && fge v f0 && fle (fop .add u v) f1) || !(fge h x.1 && fle h x.2 && fgt h f0)) = true then _ else _) = _
      rw [← Bool.not_and]
      show (if (!inTri u v h x) = true then _ else _) = _
      cases inTri u v h x <;> rfl

theorem ref10_Meet_eq (t : Tr) (r : Bx) : ref10_Meet (t, r) = some (match meet t r with
    | some h => (h.1, h.2.1, h.2.2, true)
    | none => (f0, f0, f0, false)) := by
  unfold ref10_Meet ref10_Meet.t meet
  simp only [tr_opt, tr_ite, tr_ret, ref04_Of_eq, ref04_Through_eq, Option.bind_some, ref02_Cross_eq, ref02_Dot_eq, ref02_Sub_eq, det_eq]
  unfold thr
  cases thru (bOf t) r with
  | none => rfl
  | some x =>
    simp only [Option.bind_some, Bool.not_true, Bool.false_or]
    unfold meetAt
    dsimp only
    generalize hd : vDot (vSub t.2.1 t.1) (vCross r.2 (vSub t.2.2 t.1)) = d
    cases (feq d f0 || !feq d d) with
    | true => rfl
    | false =>
      simp only [Bool.false_eq_true, if_false]
      generalize fop .mul (vDot (vSub t.2.2 t.1) (vCross (vSub r.1 t.1) (vSub t.2.1 t.1))) (fop .quo f1 d) = h
      generalize fop .mul (vDot (vSub r.1 t.1) (vCross r.2 (vSub t.2.2 t.1))) (fop .quo f1 d) = u
      generalize fop .mul (vDot r.2 (vCross (vSub r.1 t.1) (vSub t.2.1 t.1))) (fop .quo f1 d) = v
      show (if (fge u f0 && fle u f1 && fge v f0 && fle (fop .add u v) f1 && fge h x.1 && fle h x.2 && fgt h f0) = true then _ else _) = _
      have e : (fge u f0 && fle u f1 && fge v f0 && fle (fop .add u v) f1 && fge h x.1 && fle h x.2 && fgt h f0) = inTri u v h x := by
        unfold inTri
        simp only [Bool.and_assoc]
      rw [e]
      cases inTri u v h x <;> rfl
end Go.Proofs.Pen

namespace Go.Proofs.Pen
open Go Go.Proofs

def hid (skip : List Int) (i : Nat) : Bool := skip.any fun a => a == (i : Int)
def ask (l : List Tr) (skip : List Int) (r : Bx) (i : Nat) : Option V3 := match l[i]? with
  | some t => if hid skip i then none else meet t r
  | none => none
def toHt : Option (Nat × V3) → Ht
  | some x => ((x.1 : Int), x.2)
  | none => (-1, f0, f0, f0)

theorem Contains_eq (skip : List Int) (i : Nat) (h : skip.length < 1000) : slices_Contains (skip, (i : Int)) = some (hid skip i) := by
  have key : slices_Index (skip, (i : Int)) = some (-1) ∧ hid skip i = false ∨ ∃ j : Nat, slices_Index (skip, (i : Int)) = some (j : Int) ∧ hid skip i = true := by
    unfold slices_Index slices_Index.t slices_Index.l0
    rcases iter_scan (t := slices_Index.t0) skip (fun a => !((i : Int) == a)) (fun k => (skip, (i : Int), 0, (skip.length : Int), (k : Int), ())) (fun k => (skip, (i : Int), (k : Int), (skip.length : Int), (k : Int), ()))
      (skip, (i : Int), 0, (skip.length : Int), (skip.length : Int), ()) .ret (.exit 0) (fun k hk => by
        unfold slices_Index.t0
        dsimp only
        rw [tr_ite, if_pos (decide_eq_true (by omega)), tr_opt, lget_nat _ hk, Option.bind_some, tr_ite, tr_ret, tr_ret, W_succ (by omega)]
        by_cases e : ((i : Int) == skip[k]) = true
        · rw [if_pos e, if_neg (by simp [e])]
        · have e : ((i : Int) == skip[k]) = false := by simpa using e
          rw [e]; rfl) (by
        unfold slices_Index.t0
        dsimp only
        rw [tr_ite, if_neg (by simp), tr_ret]) (by simp) (by simp) (m := rounds) (by unfold rounds; omega) with ⟨h1, h2⟩ | ⟨h1, k, h2⟩
    · refine .inl ⟨?_, ?_⟩
      · rw [tr_opt]
        show (((iterT slices_Index.t0 rounds (skip, (i : Int), 0, (skip.length : Int), (0 : Int), ())).run).bind _) = _
        have h2 : (iterT slices_Index.t0 rounds (skip, (i : Int), 0, (skip.length : Int), (0 : Int), ())).run = _ := h2
        rw [h2]; rfl
      · unfold hid
        refine List.any_eq_false.2 fun a ha => ?_
        have := List.all_eq_true.1 h1 a ha
        intro e
        have e : a = (i : Int) := by simpa using e
        subst e
        simp at this
    · refine .inr ⟨k, ?_, ?_⟩
      · rw [tr_opt]
        have h2 : (iterT slices_Index.t0 rounds (skip, (i : Int), 0, (skip.length : Int), (0 : Int), ())).run = _ := h2
        rw [h2]; rfl
      · unfold hid
        rw [List.all_eq_false] at h1
        obtain ⟨a, ha, h3⟩ := h1
        refine List.any_eq_true.2 ⟨a, ha, ?_⟩
        have : (i : Int) = a := by simpa using h3
        simp [this]
  unfold slices_Contains slices_Contains.t
  rw [tr_opt]
  rcases key with ⟨e, e2⟩ | ⟨j, e, e2⟩
  · rw [e, e2]; rfl
  · rw [e, e2, Option.bind_some, tr_ret]
    rw [decide_eq_true (by omega)]

theorem asker_eq (l : List Tr) (skip : List Int) (r : Bx) (hs : skip.length < 1000) {i : Nat} (hi : i < l.length) :
    hit_asker_1 ((i : Int), l, skip, r) = some (toHt ((ask l skip r i).map fun h => (i, h))) := by
  unfold hit_asker_1 hit_asker_1.t ask
  dsimp only
  rw [List.getElem?_eq_getElem hi]
  simp only [tr_ite, tr_opt, tr_ret, Contains_eq skip i hs, Option.bind_some, lget_nat _ hi, tri_Meet_eq]
  rw [if_neg (by simp; omega)]
  cases hid skip i with
  | true => rfl
  | false =>
    simp only [Bool.false_eq_true, if_false]
    cases meet l[i] r <;> rfl

def fwd (g : Nat → Option V3) : Nat → Option (Nat × V3)
  | 0 => none
  | k + 1 => match g k with
    | none => fwd g k
    | some h => match fwd g k with
      | none => some (k, h)
      | some b => if flt h.1 b.2.1 then some (k, h) else some b
theorem Better_none (b : Ht) : tri_Better ((-1, f0, f0, f0), b) = some false := by
  unfold tri_Better tri_Better.t
  simp only [tr_ite, tr_ret]
  rw [if_pos (by simp)]
theorem Better_first (k : Nat) (h : V3) : tri_Better (((k : Int), h), (-1, f0, f0, f0)) = some true := by
  unfold tri_Better tri_Better.t
  simp only [tr_ite, tr_ret]
  have e1 : ((k : Int) == -1) = false := by simp
  rw [e1, Bool.false_and, Bool.false_or, if_neg (by simp), if_pos (by simp)]
def bwd (g : Nat → Option V3) (n : Nat) : Nat → Option (Nat × V3)
  | 0 => none
  | k + 1 => match g (n - (k + 1)) with
    | none => bwd g n k
    | some h => match bwd g n k with
      | none => some (n - (k + 1), h)
      | some b => if fle h.1 b.2.1 then some (n - (k + 1), h) else some b

structure Best (g : Nat → Option V3) (lo hi : Nat) (b : Option (Nat × V3)) : Prop where
  none : b = none → ∀ j, lo ≤ j → j < hi → g j = none
  some : ∀ x, b = some x → lo ≤ x.1 ∧ x.1 < hi ∧ g x.1 = Option.some x.2 ∧ ∀ j h, lo ≤ j → j < hi → g j = Option.some h → (j < x.1 → klt (okey x.2.1) (okey h.1) = true) ∧ (x.1 ≤ j → kle (okey x.2.1) (okey h.1) = true)

theorem Best.unique {g : Nat → Option V3} {lo hi : Nat} {a b : Option (Nat × V3)} (ha : Best g lo hi a) (hb : Best g lo hi b) : a = b := by
  cases a with
  | none =>
    cases b with
    | none => rfl
    | some y =>
      obtain ⟨h1, h2, h3, _⟩ := hb.some y rfl
      have := ha.none rfl y.1 h1 h2
      rw [this] at h3; cases h3
  | some x =>
    obtain ⟨x1, x2, x3, x4⟩ := ha.some x rfl
    cases b with
    | none =>
      have := hb.none rfl x.1 x1 x2
      rw [this] at x3; cases x3
    | some y =>
      obtain ⟨y1, y2, y3, y4⟩ := hb.some y rfl
      have hx := x4 y.1 y.2 y1 y2 y3
      have hy := y4 x.1 x.2 x1 x2 x3
      have key : ∀ p q : Option Int, klt p q = true → kle q p = true → False := fun p q h1 h2 => by
        cases p <;> cases q <;> simp only [klt, kle, decide_eq_true_eq] at h1 h2 <;> first | omega | cases h1
      rcases Nat.lt_trichotomy x.1 y.1 with h | h | h
      · exact (key _ _ (hy.1 h) (hx.2 (by omega))).elim
      · have : x.2 = y.2 := by rw [h, y3] at x3; exact (Option.some.inj x3).symm
        congr 1
        exact Prod.ext h this
      · exact (key _ _ (hx.1 h) (hy.2 (by omega))).elim

def Nums (g : Nat → Option V3) : Prop := ∀ i h, g i = some h → ∃ k, okey h.1 = some k

theorem fwd_best {g : Nat → Option V3} (hg : Nums g) : ∀ n, Best g 0 n (fwd g n)
  | 0 => ⟨fun _ j _ h => absurd h (Nat.not_lt_zero _), fun x h => by cases h⟩
  | n + 1 => by
    have ih := fwd_best hg n
    unfold fwd
    split
    · rename_i e
      refine ⟨fun h j h1 h2 => ?_, fun x h => ?_⟩
      · rcases Nat.lt_or_ge j n with h3 | h3
        · exact ih.none h j h1 h3
        · have : j = n := by omega
          subst this; exact e
      · obtain ⟨a, b, c, d⟩ := ih.some x h
        refine ⟨a, by omega, c, fun j y h1 h2 h3 => ?_⟩
        rcases Nat.lt_or_ge j n with h4 | h4
        · exact d j y h1 h4 h3
        · have : j = n := by omega
          subst this; rw [e] at h3; cases h3
    · rename_i h e
      obtain ⟨kh, hk⟩ := hg n h e
      split
      · rename_i e2
        refine ⟨fun h => (by cases h), fun x h => ?_⟩
        cases h
        refine ⟨Nat.zero_le _, by simp, e, fun j y h1 h2 h3 => ?_⟩
        rcases Nat.lt_or_ge j n with h4 | h4
        · rw [ih.none e2 j h1 h4] at h3; cases h3
        · have : j = n := by omega
          subst this; rw [e] at h3; cases h3
          refine ⟨fun h => absurd h (by simp), fun _ => ?_⟩
          rw [hk]; simp [kle]
      · rename_i b e2
        obtain ⟨a1, a2, a3, a4⟩ := ih.some b e2
        obtain ⟨kb, hkb⟩ := hg _ _ a3
        have hlt : flt h.1 b.2.1 = decide (kh < kb) := by unfold flt; rw [ford_lt, hk, hkb]; rfl
        by_cases hc : kh < kb
        · rw [if_pos (by rw [hlt]; exact decide_eq_true hc)]
          refine ⟨fun h => (by cases h), fun x h => ?_⟩
          cases h
          refine ⟨Nat.zero_le _, by simp, e, fun j y h1 h2 h3 => ?_⟩
          obtain ⟨ky, hky⟩ := hg _ _ h3
          rw [hk, hky]
          simp only [klt, kle, decide_eq_true_eq]
          rcases Nat.lt_or_ge j n with h4 | h4
          · obtain ⟨q1, q2⟩ := a4 j y h1 h4 h3
            rw [hkb, hky] at q1 q2
            simp only [klt, kle, decide_eq_true_eq] at q1 q2
            rcases Nat.lt_or_ge j b.1 with h5 | h5
            · have := q1 h5; omega
            · have := q2 h5; omega
          · have : j = n := by omega
            subst this; rw [e] at h3; cases h3
            rw [hk] at hky; cases hky
            omega
        · rw [if_neg (by rw [hlt]; simp [hc])]
          refine ⟨fun h => (by cases h), fun x h => ?_⟩
          cases h
          refine ⟨a1, by omega, a3, fun j y h1 h2 h3 => ?_⟩
          rcases Nat.lt_or_ge j n with h4 | h4
          · exact a4 j y h1 h4 h3
          · have : j = n := by omega
            subst this; rw [e] at h3; cases h3
            rw [hkb, hk]
            simp only [klt, kle, decide_eq_true_eq]
            omega

theorem bwd_best {g : Nat → Option V3} (hg : Nums g) (n : Nat) : ∀ k, k ≤ n → Best g (n - k) n (bwd g n k)
  | 0, _ => ⟨fun _ j h1 h2 => by omega, fun x h => by cases h⟩
  | k + 1, hk => by
    have ih := bwd_best hg n k (by omega)
    have hm : n - k = n - (k + 1) + 1 := by omega
    rw [hm] at ih
    unfold bwd
    generalize n - (k + 1) = m at *
    have hmn : m < n := by omega
    split
    · rename_i e
      refine ⟨fun h j h1 h2 => ?_, fun x h => ?_⟩
      · rcases Nat.lt_or_ge m j with h3 | h3
        · exact ih.none h j h3 h2
        · have : j = m := by omega
          subst this; exact e
      · obtain ⟨a, b, c, d⟩ := ih.some x h
        refine ⟨by omega, b, c, fun j y h1 h2 h3 => ?_⟩
        rcases Nat.lt_or_ge m j with h4 | h4
        · exact d j y h4 h2 h3
        · have : j = m := by omega
          subst this; rw [e] at h3; cases h3
    · rename_i h e
      obtain ⟨kh, hk⟩ := hg m h e
      split
      · rename_i e2
        refine ⟨fun h => (by cases h), fun x h => ?_⟩
        cases h
        refine ⟨Nat.le_refl _, hmn, e, fun j y h1 h2 h3 => ?_⟩
        rcases Nat.lt_or_ge m j with h4 | h4
        · rw [ih.none e2 j h4 h2] at h3; cases h3
        · have : j = m := by omega
          subst this; rw [e] at h3; cases h3
          refine ⟨fun h => absurd h (by simp), fun _ => ?_⟩
          rw [hk]; simp [kle]
      · rename_i b e2
        obtain ⟨a1, a2, a3, a4⟩ := ih.some b e2
        obtain ⟨kb, hkb⟩ := hg _ _ a3
        have hle : fle h.1 b.2.1 = decide (kh ≤ kb) := by unfold fle; rw [ford_le, hk, hkb]; rfl
        by_cases hc : kh ≤ kb
        · rw [if_pos (by rw [hle]; exact decide_eq_true hc)]
          refine ⟨fun h => (by cases h), fun x h => ?_⟩
          cases h
          refine ⟨Nat.le_refl _, hmn, e, fun j y h1 h2 h3 => ?_⟩
          obtain ⟨ky, hky⟩ := hg _ _ h3
          rw [hk, hky]
          simp only [klt, kle, decide_eq_true_eq]
          rcases Nat.lt_or_ge m j with h4 | h4
          · obtain ⟨q1, q2⟩ := a4 j y h4 h2 h3
            rw [hkb, hky] at q1 q2
            simp only [klt, kle, decide_eq_true_eq] at q1 q2
            rcases Nat.lt_or_ge j b.1 with h5 | h5
            · have := q1 h5; omega
            · have := q2 h5; omega
          · have : j = m := by omega
            subst this; rw [e] at h3; cases h3
            rw [hk] at hky; cases hky
            omega
        · rw [if_neg (by rw [hle]; simp [hc])]
          refine ⟨fun h => (by cases h), fun x h => ?_⟩
          cases h
          refine ⟨by omega, a2, a3, fun j y h1 h2 h3 => ?_⟩
          rcases Nat.lt_or_ge m j with h4 | h4
          · exact a4 j y h4 h2 h3
          · have : j = m := by omega
            subst this; rw [e] at h3; cases h3
            rw [hkb, hk]
            simp only [klt, kle, decide_eq_true_eq]
            omega

theorem fwd_bwd {g : Nat → Option V3} (hg : Nums g) (n : Nat) : bwd g n n = fwd g n := by
  have h1 := bwd_best hg n n (Nat.le_refl _)
  rw [Nat.sub_self] at h1
  exact h1.unique (fwd_best hg n)

theorem meet_num {t : Tr} {r : Bx} {h : V3} (e : meet t r = some h) : ∃ k, okey h.1 = some k := by
  unfold meet at e
  rw [Option.bind_eq_some_iff] at e
  obtain ⟨x, _, e⟩ := e
  unfold meetAt at e
  dsimp only at e
  split at e
  · cases e
  · split at e
    · rename_i hin
      cases e
      unfold inTri fgt at hin
      simp only [Bool.and_eq_true] at hin
      have h := hin.2.2
      rw [ford_gt] at h
      dsimp only
      rw [okey_0] at h
      revert h
      generalize okey _ = a
      intro h
      cases a with
      | none => simp [klt] at h
      | some k => exact ⟨k, rfl⟩
    · cases e
theorem ask_num (l : List Tr) (skip : List Int) (r : Bx) : Nums (ask l skip r) := fun i h e => by
  unfold ask at e
  split at e
  · split at e
    · cases e
    · exact meet_num e
  · cases e
end Go.Proofs.Pen

namespace Go.Proofs.Pen
open Go Go.Proofs
noncomputable def law13_skips.t (x : (List (Int))) : T ((List (Int))) := T.ite (decide ((↑(List.length x) : Int) > (10 : Int))) (T.ite (decide ((0 : Int) ≤ (0 : Int)) && decide ((0 : Int) ≤ (10 : Int)) && decide ((10 : Int) ≤ (↑(List.length x) : Int))) (T.ret (List.take (Int.toNat (10 : Int) - Int.toNat (0 : Int)) (List.drop (Int.toNat (0 : Int)) x))) T.fail) (T.ret x)
noncomputable def law13_skips (x : (List (Int))) : Option ((List (Int))) := (law13_skips.t x).run
noncomputable def law13_skips.q : List AV → T AV := entry [(.sl TI)] (outR [(.sl TI)]) fun x => .opt (law13_skips x) .ret
theorem law13_skips.ok : FnOK Tryz.prog 21 law13_skips.q :=
  entry_call (ps := [(.sl TI)]) (rs := [(.sl TI)]) (F := ({ quiet := Xs, deep := noDeep } : Fns)) (D := D0) (S := tabS []) (t := law13_skips.t) mixed Xok (deep_none _) Tryz.func21 (by kernel_rfl) (sok_fn trivial) (by kernel_rfl) (fun x => by kernel_rfl)
end Go.Proofs.Pen

namespace Go.Proofs.Pen
open Go Go.Proofs
def law13_few.L0 : List (Nat × Lay) := [(0, .val (.sl TTri)), (1, .val TI), (5, .row TTri), (6, .val TI)]
noncomputable def law13_few.t0 (x : (List ((Option Nat × Option Nat × Option Nat) × (Option Nat × Option Nat × Option Nat) × Option Nat × Option Nat × Option Nat)) × Int × List ((Option Nat × Option Nat × Option Nat) × (Option Nat × Option Nat × Option Nat) × Option Nat × Option Nat × Option Nat) × Int × Unit) : T (Ex × (List ((Option Nat × Option Nat × Option Nat) × (Option Nat × Option Nat × Option Nat) × Option Nat × Option Nat × Option Nat)) × Int × List ((Option Nat × Option Nat × Option Nat) × (Option Nat × Option Nat × Option Nat) × Option Nat × Option Nat × Option Nat) × Int × Unit) := T.ite (decide (x.2.2.2.1 < (↑(List.length x.1) : Int)) && decide (x.2.2.2.1 < x.2.1)) (T.opt (lget x.1 x.2.2.2.1) fun y => T.opt (ref12_May y) fun y => T.ite y (T.opt (lget x.1 x.2.2.2.1) fun y => T.ite (decide ((x.2.2.1.length + (1 : Nat)) * nat_lit 72 ≤ most)) (T.ret (Ex.normal, x.1, x.2.1, List.take (x.2.2.1.length + (1 : Nat)) (List.take x.2.2.1.length x.2.2.1 ++ [y]), W (x.2.2.2.1 + (1 : Int)), ())) T.fail) (T.ret (Ex.normal, x.1, x.2.1, List.take x.2.2.1.length x.2.2.1, W (x.2.2.2.1 + (1 : Int)), ()))) (T.ret (Ex.exit (0 : Nat), x.1, x.2.1, List.take x.2.2.1.length x.2.2.1, x.2.2.2.1, ()))
noncomputable def law13_few.l0 (x : (List ((Option Nat × Option Nat × Option Nat) × (Option Nat × Option Nat × Option Nat) × Option Nat × Option Nat × Option Nat)) × Int × List ((Option Nat × Option Nat × Option Nat) × (Option Nat × Option Nat × Option Nat) × Option Nat × Option Nat × Option Nat) × Int × Unit) : Option (Ex × (List ((Option Nat × Option Nat × Option Nat) × (Option Nat × Option Nat × Option Nat) × Option Nat × Option Nat × Option Nat)) × Int × List ((Option Nat × Option Nat × Option Nat) × (Option Nat × Option Nat × Option Nat) × Option Nat × Option Nat × Option Nat) × Int × Unit) := (iterT law13_few.t0 rounds x).run
theorem law13_few.k0 : bodies 0 (lp Tryz.f20 []) = [.loop (loopIn 0 (lp Tryz.f20 []))] ∧ WP Tryz.prog 0 (.block 0 (.loop (loopIn 0 (lp Tryz.f20 [])))) (loopS law13_few.L0 31 0 [.exit 0] law13_few.l0) :=
  loop_tree (L := law13_few.L0) (F := ({ quiet := (ext Xs 10 ref12_May.q), deep := noDeep } : Fns)) (D := D0) (tab := []) (t := law13_few.t0) mixed (quiet_ext Xok ref12_May.ok) (deep_none _) (fun _ => rfl) (by kernel_rfl) (by kernel_rfl) trivial (fun x => by kernel_rfl)
noncomputable def law13_few.t (x : (List ((Option Nat × Option Nat × Option Nat) × (Option Nat × Option Nat × Option Nat) × Option Nat × Option Nat × Option Nat)) × Int) : T ((List ((Option Nat × Option Nat × Option Nat) × (Option Nat × Option Nat × Option Nat) × Option Nat × Option Nat × Option Nat))) := T.opt (law13_few.l0 (x.1, x.2, [], (0 : Int), ())) fun y => T.ite (exEq y.1 (Ex.exit (0 : Nat))) (T.ret (List.take y.2.2.2.1.length y.2.2.2.1)) T.fail
noncomputable def law13_few (x : (List ((Option Nat × Option Nat × Option Nat) × (Option Nat × Option Nat × Option Nat) × Option Nat × Option Nat × Option Nat)) × Int) : Option ((List ((Option Nat × Option Nat × Option Nat) × (Option Nat × Option Nat × Option Nat) × Option Nat × Option Nat × Option Nat))) := (law13_few.t x).run
noncomputable def law13_few.q : List AV → T AV := entry [(.sl TTri), TI] (outR [(.sl TTri)]) fun x => .opt (law13_few x) .ret
theorem law13_few.ok : FnOK Tryz.prog 20 law13_few.q :=
  entry_call (ps := [(.sl TTri), TI]) (rs := [(.sl TTri)]) (F := ({ quiet := (ext Xs 10 ref12_May.q), deep := noDeep } : Fns)) (D := D0) (S := tabS [(0, loopS law13_few.L0 31 0 [.exit 0] law13_few.l0)]) (t := law13_few.t) mixed (quiet_ext Xok ref12_May.ok) (deep_none _) Tryz.func20 (by kernel_rfl) (sok_fn ⟨law13_few.k0, trivial⟩) (by kernel_rfl) (fun x => by kernel_rfl)
end Go.Proofs.Pen

namespace Go.Proofs.Pen
open Go Go.Proofs

theorem take_any (skip : List Int) (i : Int) {k : Nat} (h : k < skip.length) : (skip.take (k + 1)).any (fun a => a == i) = ((skip.take k).any (fun a => a == i) || skip[k] == i) := by
  rw [List.take_add_one, List.getElem?_eq_getElem h, List.any_append]; simp

theorem First_skip (l : List Tr) (skip : List Int) (r : Bx) (z b : Ht) (i : Nat) (t u v : Fl) (ok : Bool) (hs : skip.length < 1000) :
    ref13_First.l2 (l, skip, r, z, b, (i : Int), t, u, v, ok, 0, ()) = some (.exit 2, l, skip, r, z, b, (i : Int), t, u, v, (ok && !hid skip i), (skip.length : Int), ()) := by
  have h2 : (iterT ref13_First.t2 rounds (l, skip, r, z, b, (i : Int), t, u, v, ok, (0 : Int), ())).run = some (.exit 2, l, skip, r, z, b, (i : Int), t, u, v, (ok && !(skip.take skip.length).any (fun a => a == (i : Int))), (skip.length : Int), ()) := by
    have := iter_count (t := ref13_First.t2) (fun k => (l, skip, r, z, b, (i : Int), t, u, v, (ok && !(skip.take k).any (fun a => a == (i : Int))), (k : Int), ())) (e := .exit 2) (z := (l, skip, r, z, b, (i : Int), t, u, v, (ok && !(skip.take skip.length).any (fun a => a == (i : Int))), (skip.length : Int), ())) (by simp) skip.length 0 rounds (fun k _ hk => by
      have hk : k < skip.length := by omega
      unfold ref13_First.t2
      dsimp only
      rw [tr_ite, if_pos (decide_eq_true (by omega)), tr_ite, tr_opt, lget_nat _ hk, Option.bind_some, tr_ret, tr_ret, W_succ (by omega), take_any skip i hk]
      cases ok with
      | false => rfl
      | true =>
        cases (skip.take k).any (fun a => a == (i : Int)) with
        | true => rfl
        | false => rfl) (by
      rw [Nat.zero_add]
      unfold ref13_First.t2
      dsimp only
      rw [tr_ite, if_neg (by simp), tr_ret]) (by unfold rounds; omega)
    simp only [List.take_zero, List.any_nil, Bool.not_false, Bool.and_true] at this
    exact this
  unfold ref13_First.l2
  rw [h2, List.take_length]; rfl

theorem Any_skip (l : List Tr) (m : Fl) (skip : List Int) (r : Bx) (b : Bool) (i : Nat) (t : Fl) (ok : Bool) (hs : skip.length < 1000) :
    ref13_Any.l2 (l, m, skip, r, b, (i : Int), t, ok, 0, ()) = some (.exit 2, l, m, skip, r, b, (i : Int), t, (ok && !hid skip i), (skip.length : Int), ()) := by
  have h2 : (iterT ref13_Any.t2 rounds (l, m, skip, r, b, (i : Int), t, ok, (0 : Int), ())).run = some (.exit 2, l, m, skip, r, b, (i : Int), t, (ok && !(skip.take skip.length).any (fun a => a == (i : Int))), (skip.length : Int), ()) := by
    have := iter_count (t := ref13_Any.t2) (fun k => (l, m, skip, r, b, (i : Int), t, (ok && !(skip.take k).any (fun a => a == (i : Int))), (k : Int), ())) (e := .exit 2) (z := (l, m, skip, r, b, (i : Int), t, (ok && !(skip.take skip.length).any (fun a => a == (i : Int))), (skip.length : Int), ())) (by simp) skip.length 0 rounds (fun k _ hk => by
      have hk : k < skip.length := by omega
      unfold ref13_Any.t2
      dsimp only
      rw [tr_ite, if_pos (decide_eq_true (by omega)), tr_ite, tr_opt, lget_nat _ hk, Option.bind_some, tr_ret, tr_ret, W_succ (by omega), take_any skip i hk]
      cases ok with
      | false => rfl
      | true =>
        cases (skip.take k).any (fun a => a == (i : Int)) with
        | true => rfl
        | false => rfl) (by
      rw [Nat.zero_add]
      unfold ref13_Any.t2
      dsimp only
      rw [tr_ite, if_neg (by simp), tr_ret]) (by unfold rounds; omega)
    simp only [List.take_zero, List.any_nil, Bool.not_false, Bool.and_true] at this
    exact this
  unfold ref13_Any.l2
  rw [h2, List.take_length]; rfl

theorem First_step (l : List Tr) (skip : List Int) (r : Bx) (z : Ht) (hs : skip.length < 1000) {k : Nat} (hk : k < l.length) (_hl : l.length < 1000) :
    (ref13_First.t0 (l, skip, r, z, toHt (bwd (ask l skip r) l.length k), ((l.length - (k + 1) : Nat) : Int), ())).run = some (.normal, l, skip, r, z, toHt (bwd (ask l skip r) l.length (k + 1)), W (((l.length - (k + 1) : Nat) : Int) - 1), ()) := by
  have hi : l.length - (k + 1) < l.length := by omega
  conv => rhs; rw [show bwd (ask l skip r) l.length (k + 1) = (match ask l skip r (l.length - (k + 1)) with
    | none => bwd (ask l skip r) l.length k
    | some h => match bwd (ask l skip r) l.length k with
      | none => some (l.length - (k + 1), h)
      | some b => if fle h.1 b.2.1 then some (l.length - (k + 1), h) else some b) from rfl]
  generalize l.length - (k + 1) = i at hi ⊢
  generalize bwd (ask l skip r) l.length k = B
  unfold ref13_First.t0 ask
  dsimp only
  have hx : exEq (Ex.exit 2) (Ex.exit 2) = true := rfl
  rw [tr_ite, if_pos (decide_eq_true (by omega)), tr_opt, lget_nat _ hi, List.getElem?_eq_getElem hi, Option.bind_some, tr_opt, ref10_Meet_eq, Option.bind_some, tr_opt, First_skip _ _ _ _ _ _ _ _ _ _ hs, Option.bind_some, tr_ite, if_pos hx, tr_ite, tr_ret, tr_ret]
  dsimp only
  cases hid skip i with
  | true => rw [if_neg (by simp)]; rfl
  | false =>
    simp only [Bool.not_false, Bool.and_true, Bool.false_eq_true, if_false]
    cases meet l[i] r with
    | none => rw [if_neg (by simp)]
    | some h =>
      dsimp only
      rw [Bool.true_and]
      cases B with
      | none => rw [if_pos (by simp [toHt])]; rfl
      | some b =>
        show (if (decide ((b.1 : Int) < 0) || fle h.1 b.2.1) = true then some (Ex.normal, l, skip, r, z, toHt (some (i, h)), W ((i : Int) - 1), ()) else some (Ex.normal, l, skip, r, z, toHt (some b), W ((i : Int) - 1), ())) = some (Ex.normal, l, skip, r, z, toHt (if fle h.1 b.2.1 = true then some (i, h) else some b), W ((i : Int) - 1), ())
        rw [show decide ((b.1 : Int) < 0) = false from decide_eq_false (by omega), Bool.false_or]
        by_cases hf : fle h.1 b.2.1 = true
        · rw [if_pos hf, if_pos hf]
        · rw [if_neg hf, if_neg hf]

theorem ref13_First_eq (l : List Tr) (r : Bx) (skip : List Int) (hs : skip.length < 1000) (hl : l.length < 1000) : ref13_First (l, r, skip) = some (toHt (fwd (ask l skip r) l.length)) := by
  unfold ref13_First ref13_First.t ref13_First.l0
  have hn := fwd_bwd (ask_num l skip r) l.length
  have h2 : (iterT ref13_First.t0 rounds (l, skip, r, (0, f0, f0, f0), (-1, f0, f0, f0), W ((l.length : Int) - 1), ())).run = some (.exit 0, l, skip, r, (0, f0, f0, f0), toHt (bwd (ask l skip r) l.length l.length), (-1 : Int), ()) := by
    have wd : ∀ k, k < l.length + 1 → W (((l.length - k : Nat) : Int) - 1) = ((l.length - k : Nat) : Int) - 1 := fun k _ => W_id (by omega) (by omega)
    have := iter_count (t := ref13_First.t0) (fun k => (l, skip, r, (0, f0, f0, f0), toHt (bwd (ask l skip r) l.length k), W (((l.length - k : Nat) : Int) - 1), ())) (e := .exit 0) (z := (l, skip, r, (0, f0, f0, f0), toHt (bwd (ask l skip r) l.length l.length), (-1 : Int), ())) (by simp) l.length 0 rounds (fun k _ hk => by
      have hk : k < l.length := by omega
      have e : W (((l.length - k : Nat) : Int) - 1) = ((l.length - (k + 1) : Nat) : Int) := by rw [wd k (by omega)]; omega
      rw [e]
      exact First_step l skip r _ hs hk hl) (by
      rw [Nat.zero_add, wd _ (by omega), Nat.sub_self]
      unfold ref13_First.t0
      dsimp only
      rw [tr_ite, if_neg (by simp), tr_ret]
      rfl) (by unfold rounds; omega)
    exact this
  have hx : exEq (Ex.exit 0) (Ex.exit 0) = true := rfl
  rw [tr_opt, h2, Option.bind_some, tr_ite, if_pos hx, tr_ret, hn]

def blk (g : Nat → Option V3) (m : Fl) (i : Nat) : Bool := match g i with
  | some h => flt h.1 m
  | none => false

theorem iter_any {σ : Type} {t : σ → T (Ex × σ)} (c : Nat → Bool) (st : Nat → σ) (zr : Nat → σ) (ze : σ) (n : Nat) (hstep : ∀ i, i < n → (t (st i)).run = some (if c i then (.ret, zr i) else (.normal, st (i + 1))))
    (hend : (t (st n)).run = some (.exit 0, ze)) {m : Nat} (hm : n < m) :
      ((List.range n).any c = false ∧ (iterT t m (st 0)).run = some (.exit 0, ze)) ∨ ((List.range n).any c = true ∧ ∃ i, (iterT t m (st 0)).run = some (.ret, zr i)) := by
  rcases iter_scan (t := t) (List.range n) (fun i => !c i) st zr ze .ret (.exit 0) (fun i h => by
    have h : i < n := by simpa using h
    rw [hstep i h, List.getElem_range]
    cases c i <;> rfl) (by rw [List.length_range]; exact hend) (by simp) (by simp) (m := m) (by rw [List.length_range]; exact hm) with ⟨h1, h2⟩ | ⟨h1, h2⟩
  · refine .inl ⟨?_, h2⟩
    refine List.any_eq_false.2 fun a ha => ?_
    have := List.all_eq_true.1 h1 a ha
    simpa using this
  · refine .inr ⟨?_, h2⟩
    rw [List.all_eq_false] at h1
    obtain ⟨a, ha, h3⟩ := h1
    exact List.any_eq_true.2 ⟨a, ha, by simpa using h3⟩

def anyOf (l : List Tr) (skip : List Int) (r : Bx) (m : Fl) : Bool := (List.range l.length).any (blk (ask l skip r) m)

theorem ref13_Any_eq (l : List Tr) (r : Bx) (m : Fl) (skip : List Int) (hs : skip.length < 1000) (hl : l.length < 1000) : ref13_Any (l, r, m, skip) = some (anyOf l skip r m) := by
  unfold ref13_Any ref13_Any.t ref13_Any.l0 anyOf
  have hx : exEq (Ex.exit 2) (Ex.exit 2) = true := rfl
  have key := iter_any (t := ref13_Any.t0) (blk (ask l skip r) m) (fun k => (l, m, skip, r, false, (k : Int), ())) (fun k => (l, m, skip, r, true, (k : Int), ())) (l, m, skip, r, false, (l.length : Int), ()) l.length (fun i hi => by
    unfold ref13_Any.t0 blk ask
    dsimp only
    rw [tr_ite, if_pos (decide_eq_true (by omega)), tr_opt, lget_nat _ hi, List.getElem?_eq_getElem hi, Option.bind_some, tr_opt, ref10_Meet_eq, Option.bind_some, tr_opt, Any_skip _ _ _ _ _ _ _ _ hs, Option.bind_some, tr_ite, if_pos hx, tr_ite, tr_ret, tr_ret, W_succ (by omega)]
    dsimp only
    cases hid skip i with
    | true => rw [if_neg (by simp)]; rfl
    | false =>
      simp only [Bool.not_false, Bool.and_true, Bool.false_eq_true, if_false]
      cases meet l[i] r with
      | none => rfl
      | some h =>
        show (if (true && flt h.1 m) = true then _ else _) = some (if flt h.1 m = true then _ else _)
        rw [Bool.true_and]
        by_cases hf : flt h.1 m = true
        · rw [if_pos hf, if_pos hf]
        · rw [if_neg hf, if_neg hf]) (by
    unfold ref13_Any.t0
    dsimp only
    rw [tr_ite, if_neg (by simp), tr_ret]) (m := rounds) (by unfold rounds; omega)
  rw [tr_opt]
  rcases key with ⟨h1, h2⟩ | ⟨h1, i, h2⟩
  · have h2 : (iterT ref13_Any.t0 rounds (l, m, skip, r, false, (0 : Int), ())).run = _ := h2
    rw [h2, h1]; rfl
  · have h2 : (iterT ref13_Any.t0 rounds (l, m, skip, r, false, (0 : Int), ())).run = _ := h2
    rw [h2, h1]; rfl

theorem skips_eq (x : List Int) : ∃ y : List Int, law13_skips x = some y ∧ y.length < 1000 := by
  unfold law13_skips law13_skips.t
  by_cases h : (x.length : Int) > 10
  · refine ⟨_, by rw [tr_ite, if_pos (decide_eq_true h), tr_ite, if_pos (by simp; omega), tr_ret], ?_⟩
    rw [List.length_take]
    have : (Int.toNat 10 - Int.toNat 0) = 10 := rfl
    omega
  · exact ⟨x, by rw [tr_ite, if_neg (by simpa using h), tr_ret], by omega⟩

end Go.Proofs.Pen

namespace Go.Proofs.Pen
open Go Go.Proofs

abbrev IN : Int := 9218868437227405312
def lowK (x : Fl) : Int := (okey x).getD (-9218868437227405312)
def highK (x : Fl) : Int := (okey x).getD 9218868437227405312
theorem okey_bd {x : Fl} {i : Int} (h : okey x = some i) : -9218868437227405312 ≤ i ∧ i ≤ 9218868437227405312 := by
  cases x with
  | none => cases h
  | some x =>
    have h' : (if frung x ≤ 9218868437227405312 then some (fkey x) else none) = some i := h
    split at h'
    · have := Option.some.inj h'
      rw [← this]
      unfold fkey sg
      split <;> omega
    · cases h'
theorem fHigh_low {n x : Fl} {i : Int} (h : okey n = some i) : okey (fHigh n x) = some (max i (lowK x)) := by
  have hb := okey_bd h
  unfold fHigh fgt lowK
  rw [ford_gt, h]
  cases e : okey x with
  | none =>
    rw [if_neg (by simp [klt]), h, Option.getD_none]
    congr 1; omega
  | some j =>
    unfold klt
    rw [Option.getD_some]
    by_cases hj : i < j
    · rw [if_pos (by simpa using hj), e]; congr 1; omega
    · rw [if_neg (by simpa using hj), h]; congr 1; omega
theorem fLow_high {n x : Fl} {i : Int} (h : okey n = some i) : okey (fLow n x) = some (min i (highK x)) := by
  have hb := okey_bd h
  unfold fLow flt highK
  rw [ford_lt, h]
  cases e : okey x with
  | none =>
    rw [if_neg (by simp [klt]), h, Option.getD_none]
    congr 1; omega
  | some j =>
    unfold klt
    rw [Option.getD_some]
    by_cases hj : j < i
    · rw [if_pos (by simpa using hj), e]; congr 1; omega
    · rw [if_neg (by simpa using hj), h]; congr 1; omega

theorem quo_any {a b : Fl} {i j : Int} (ha : okey a = some i) (hb : okey b = some j) (hi : i.natAbs < 9218868437227405312) (hj : j.natAbs < 9218868437227405312) (h0 : j ≠ 0) : ∃ k, okey (fop .quo a b) = some k := by
  obtain ⟨x, s, m, p, rfl, h1, h2, h3, h4, h5, h6⟩ := fin_read ha hi
  obtain ⟨y, t, n, q, rfl, k1, k2, k3, k4, k5, k6⟩ := fin_read hb hj
  have hn : n ≠ 0 := by
    have := rval_pos (show 0 < j.natAbs by omega)
    rw [← k4] at this
    exact Nat.ne_of_gt (Nat.pos_of_mul_pos_right this)
  have : ∃ s m p, fop .quo (some x) (some y) = some (FF.nearest s m p) := by
    refine ⟨s ^^ t, 2 * ((m <<< (54 + n.log2 - m.log2)) / n) + ((m <<< (54 + n.log2 - m.log2)) % n != 0).toNat, p - q - ((54 + n.log2 - m.log2 : Nat) : Int) - 1, ?_⟩
    show FF.div x y = _
    unfold Ieee.Format.div
    rw [h1, k1]
    show ((Ieee.Datum.number s m p).quotient 54 (.number t n q)).map FF.write = _
    unfold Ieee.Datum.quotient
    simp only [hn, if_false, Option.map_some]
    rfl
  obtain ⟨s, m, p, e⟩ := this
  rw [e, nearest_rnd, okey_word _ (rnd_le_inf _ _)]
  exact ⟨_, rfl⟩
theorem mul_inf {a b : Fl} {i j : Int} (ha : okey a = some i) (hb : okey b = some j) (hi : i.natAbs < 9218868437227405312) (hj : j.natAbs = 9218868437227405312) : okey (fop .mul a b) = if i = 0 then none else some (sg (decide (i < 0) ^^ decide (j < 0)) 9218868437227405312) := by
  obtain ⟨x, s, m, p, rfl, h1, h2, h3, h4, h5, h6⟩ := fin_read ha hi
  cases b with
  | none => cases hb
  | some y =>
    have h' : (if frung y ≤ 9218868437227405312 then some (fkey y) else none) = some j := hb
    split at h'
    · have hk := Option.some.inj h'
      have hf : frung y = 9218868437227405312 := by
        rw [← hk] at hj
        unfold fkey sg at hj
        split at hj <;> omega
      have hy := read_inf y hf
      have hs : fsgn y = decide (j < 0) := by
        rw [← hk]
        unfold fkey sg
        rw [hf]
        cases fsgn y <;> simp
      have e : fop .mul (some x) (some y) = (if m = 0 then none else some (FF.word (s ^^ fsgn y) 9218868437227405312)) := by
        show FF.mul x y = _
        unfold Ieee.Format.mul
        rw [h1, hy]
        show Option.map FF.write (if m = 0 then none else some (.infinity (fsgn y ^^ s))) = _
        rw [Bool.xor_comm]
        split <;> rfl
      have hm : m = 0 ↔ i = 0 := by
        constructor
        · intro e; rw [e, Nat.zero_mul] at h4
          rcases Nat.eq_zero_or_pos i.natAbs with h | h
          · omega
          · have := rval_pos h; omega
        · intro e; subst e
          rw [show (0 : Int).natAbs = 0 from rfl, rval_zero] at h4
          rcases Nat.mul_eq_zero.1 h4 with h | h
          · exact h
          · have := Nat.two_pow_pos (p + 1074).toNat; omega
      rw [e]
      by_cases h0 : i = 0
      · rw [if_pos h0, if_pos (hm.2 h0)]; rfl
      · rw [if_neg h0, if_neg (fun e => h0 (hm.1 e)), okey_word _ (Nat.le_refl _)]
        congr 1
        rcases Int.lt_or_lt_of_ne h0 with hneg | hpos
        · rw [h5 hneg, hs, decide_eq_true hneg]
        · rw [h6 hpos, hs, decide_eq_false (show ¬ i < 0 by omega)]
    · cases h'
theorem mul_pos_mono {a b c : Fl} {i j k : Int} (ha : okey a = some i) (hb : okey b = some j) (hc : okey c = some k) (hi : i.natAbs < 9218868437227405312) (hj : j.natAbs < 9218868437227405312) (h : i ≤ j) (hk : 0 ≤ k) : lowK (fop .mul a c) ≤ lowK (fop .mul b c) ∧ highK (fop .mul a c) ≤ highK (fop .mul b c) := by
  unfold lowK highK
  have hkb := okey_bd hc
  by_cases hf : k = 9218868437227405312
  · rw [mul_inf ha hc hi (by omega), mul_inf hb hc hj (by omega)]
    have hk0 : ¬ k < 0 := by omega
    by_cases i0 : i = 0 <;> by_cases j0 : j = 0 <;> by_cases in0 : i < 0 <;> by_cases jn0 : j < 0 <;> simp [i0, j0, in0, jn0, hk0, sg] <;> omega
  · rw [mul_key ha hc hi (by omega), mul_key hb hc hj (by omega)]
    have w0 : valI 0 = 0 := by kernel_rfl
    have hv : 0 ≤ valI k := by rw [← w0]; exact valI_mono hk
    have := MM_mono (Int.mul_le_mul_of_nonneg_right (valI_mono h) hv)
    exact ⟨this, this⟩
theorem mul_neg_mono {a b c : Fl} {i j k : Int} (ha : okey a = some i) (hb : okey b = some j) (hc : okey c = some k) (hi : i.natAbs < 9218868437227405312) (hj : j.natAbs < 9218868437227405312) (h : i ≤ j) (hk : k < 0) : lowK (fop .mul b c) ≤ lowK (fop .mul a c) ∧ highK (fop .mul b c) ≤ highK (fop .mul a c) := by
  unfold lowK highK
  have hkb := okey_bd hc
  by_cases hf : k = -9218868437227405312
  · rw [mul_inf ha hc hi (by omega), mul_inf hb hc hj (by omega)]
    by_cases i0 : i = 0 <;> by_cases j0 : j = 0 <;> by_cases in0 : i < 0 <;> by_cases jn0 : j < 0 <;> simp [i0, j0, in0, jn0, hk, sg] <;> omega
  · rw [mul_key ha hc hi (by omega), mul_key hb hc hj (by omega)]
    have w0 : valI 0 = 0 := by kernel_rfl
    have hv : valI k ≤ 0 := by rw [← w0]; exact valI_mono (by omega)
    have := MM_mono (Int.mul_le_mul_of_nonpos_right (valI_mono h) hv)
    exact ⟨this, this⟩
theorem edge_max : RR (valI K20 + valI 9218868437227405311) = 9218868437227405311 := by kernel_rfl
theorem edge_min : RR (-(valI K20 + valI 9218868437227405311)) = -9218868437227405311 := by kernel_rfl
theorem sub_fin {a o : Fl} {q : Int} (ha : okK a) (ho : okey o = some q) (hq : q.natAbs < 9218868437227405312) : okey (fop .sub a o) = some (RR (valI (kx a) - valI q)) ∧ (RR (valI (kx a) - valI q)).natAbs < 9218868437227405312 := by
  have hK := K20_eq
  refine ⟨sub_key ha.1 ho (by have := ha.2; omega) hq, ?_⟩
  have b1 := valI_bd ha.2.1 ha.2.2
  have b2 := valI_mono (show q ≤ 9218868437227405311 by omega)
  have b3 := valI_mono (show -9218868437227405311 ≤ q by omega)
  have c : valI (-9218868437227405311) = -valI 9218868437227405311 := by kernel_rfl
  have u : RR (valI (kx a) - valI q) ≤ 9218868437227405311 := by rw [← edge_max]; exact RR_mono (by omega)
  have l : -9218868437227405311 ≤ RR (valI (kx a) - valI q) := by rw [← edge_min]; exact RR_mono (by omega)
  omega
end Go.Proofs.Pen

namespace Go.Proofs.Pen
open Go Go.Proofs

structure Wider (x y : Fl × Fl) : Prop where
  ex : ∃ i j i' j', okey x.1 = some i ∧ okey x.2 = some j ∧ okey y.1 = some i' ∧ okey y.2 = some j' ∧ i' ≤ i ∧ j ≤ j'
theorem wider_step {x y : Fl × Fl} (h : Wider x y) {a b a' b' : Fl} (ha : lowK a' ≤ lowK a) (hb : highK b ≤ highK b') : Wider (fHigh x.1 a, fLow x.2 b) (fHigh y.1 a', fLow y.2 b') := by
  obtain ⟨i, j, i', j', h1, h2, h3, h4, h5, h6⟩ := h.ex
  exact ⟨_, _, _, _, fHigh_low h1, fLow_high h2, fHigh_low h3, fLow_high h4, by omega, by omega⟩
theorem num_okey {a : Fl} (h : fNum a = true) : ∃ q, okey a = some q ∧ q.natAbs < 9218868437227405312 := by
  unfold fNum at h
  cases e : okey a with
  | none => rw [e] at h; simp [kle] at h
  | some q =>
    rw [e] at h
    simp only [kle, Bool.and_eq_true, decide_eq_true_eq] at h
    exact ⟨q, rfl, by omega⟩
theorem slab_mono {lo hi lo' hi' o d : Fl} {x x' y : Fl × Fl} (hb : okA lo hi) (hc : okA lo' hi') (hin : inA lo hi lo' hi') (ho : fNum o = true) (hd : fNum d = true) (hx : Wider x x') (h : slab lo hi o d x = some y) : ∃ y', slab lo' hi' o d x' = some y' ∧ Wider y y' := by
  obtain ⟨q, ho, hq⟩ := num_okey ho
  obtain ⟨e, hd, he⟩ := num_okey hd
  unfold slab at h ⊢
  have hfe : feq d f0 = decide (e = 0) := by unfold feq; rw [ford_eqk, hd, okey_0]; rfl
  rw [hfe] at h ⊢
  by_cases h0 : e = 0
  · rw [if_pos (decide_eq_true h0)] at h ⊢
    have l1 : ∀ {a b : Fl} {i j : Int}, okey a = some i → okey b = some j → fle a b = decide (i ≤ j) := fun {a b i j} ha hb => by unfold fle; rw [ford_le, ha, hb]; rfl
    rw [l1 hb.1.1 ho, l1 ho hb.2.1.1] at h
    rw [l1 hc.1.1 ho, l1 ho hc.2.1.1]
    split at h
    · rename_i hh
      simp only [Bool.and_eq_true, decide_eq_true_eq] at hh
      cases h
      have := hin.1
      have := hin.2
      rw [if_pos (by simp; omega)]
      exact ⟨x', rfl, hx⟩
    · cases h
  · rw [if_neg (by simpa using h0)] at h ⊢
    obtain ⟨k, hk⟩ := quo_any okey_1 hd (by decide) he h0
    have hfl : flt (fop .quo f1 d) f0 = decide (k < 0) := by unfold flt; rw [ford_lt, hk, okey_0]; rfl
    rw [hfl] at h ⊢
    obtain ⟨s1, t1⟩ := sub_fin hb.1 ho hq
    obtain ⟨s2, t2⟩ := sub_fin hb.2.1 ho hq
    obtain ⟨s3, t3⟩ := sub_fin hc.1 ho hq
    obtain ⟨s4, t4⟩ := sub_fin hc.2.1 ho hq
    have m1 : RR (valI (kx lo') - valI q) ≤ RR (valI (kx lo) - valI q) := RR_mono (by have := valI_mono hin.1; omega)
    have m2 : RR (valI (kx hi) - valI q) ≤ RR (valI (kx hi') - valI q) := RR_mono (by have := valI_mono hin.2; omega)
    by_cases hn : k < 0
    · rw [if_pos (decide_eq_true hn)] at h ⊢
      cases h
      exact ⟨_, rfl, wider_step hx (mul_neg_mono s2 s4 hk t2 t4 m2 hn).1 (mul_neg_mono s3 s1 hk t3 t1 m1 hn).2⟩
    · rw [if_neg (by simpa using hn)] at h ⊢
      cases h
      exact ⟨_, rfl, wider_step hx (mul_pos_mono s3 s1 hk t3 t1 m1 (by omega)).1 (mul_pos_mono s2 s4 hk t2 t4 m2 (by omega)).2⟩
theorem slabs_mono {b c r : Bx} {x x' y : Fl × Fl} (hb : okB b) (hc : okB c) (hin : inB b c) (ho : vNum r.1 = true) (hd : vNum r.2 = true) (k : Nat) (hx : Wider x x') (h : slabs b r k x = some y) : ∃ y', slabs c r k x' = some y' ∧ Wider y y' := by
  unfold vNum at ho hd
  simp only [Bool.and_eq_true] at ho hd
  unfold slabs at h ⊢
  unfold part3 at h ⊢
  match k with
  | 0 => exact slab_mono hb.1 hc.1 hin.1 ho.1.1 hd.1.1 hx h
  | 1 => exact slab_mono hb.2.1 hc.2.1 hin.2.1 ho.1.2 hd.1.2 hx h
  | k + 2 => exact slab_mono hb.2.2 hc.2.2 hin.2.2 ho.2 hd.2 hx h
theorem thru_mono {b c r : Bx} {x : Fl × Fl} (hb : okB b) (hc : okB c) (hin : inB b c) (h : thru b r = some x) : ∃ y, thru c r = some y ∧ Wider x y := by
  unfold thru at h ⊢
  split at h
  · rename_i hf
    rw [if_pos hf]
    rw [Bool.and_eq_true] at hf
    rw [Option.bind_eq_some_iff] at h
    obtain ⟨x2, h, h3⟩ := h
    rw [Option.bind_eq_some_iff] at h
    obtain ⟨x1, h1, h2⟩ := h
    rw [Option.bind_eq_some_iff] at h3
    obtain ⟨x3, h3, h4⟩ := h3
    have hst : Wider (f0, fInf) (f0, fInf) := ⟨_, _, _, _, okey_0, okey_inf, okey_0, okey_inf, Int.le_refl _, Int.le_refl _⟩
    obtain ⟨y1, e1, w1⟩ := slabs_mono hb hc hin hf.1 hf.2 0 hst h1
    obtain ⟨y2, e2, w2⟩ := slabs_mono hb hc hin hf.1 hf.2 1 w1 h2
    obtain ⟨y3, e3, w3⟩ := slabs_mono hb hc hin hf.1 hf.2 2 w2 h3
    obtain ⟨i, j, i', j', g1, g2, g3, g4, g5, g6⟩ := w3.ex
    split at h4
    · rename_i hle
      cases h4
      unfold fle at hle
      rw [ford_le, g1, g2] at hle
      have hle := of_decide_eq_true hle
      refine ⟨y3, ?_, w3⟩
      rw [e1, Option.bind_some, e2, Option.bind_some, e3, Option.bind_some, if_pos]
      unfold fle
      rw [ford_le, g3, g4]
      exact decide_eq_true (by omega)
    · cases h4
  · cases h
theorem meet_thru {t : Tr} {r : Bx} {h : V3} (e : meet t r = some h) : ∃ x k i, thru (bOf t) r = some x ∧ okey h.1 = some k ∧ okey x.1 = some i ∧ i ≤ k := by
  unfold meet at e
  rw [Option.bind_eq_some_iff] at e
  obtain ⟨x, hx, e⟩ := e
  have hk := meet_num (t := t) (r := r) (h := h) (by unfold meet; rw [hx, Option.bind_some]; exact e)
  obtain ⟨k, hk⟩ := hk
  unfold meetAt at e
  dsimp only at e
  split at e
  · cases e
  · split at e
    · rename_i hin
      cases e
      unfold inTri fge at hin
      simp only [Bool.and_eq_true] at hin
      have h1 := hin.2.1.1
      rw [ford_ge] at h1
      dsimp only at hk
      rw [hk] at h1
      cases hi : okey x.1 with
      | none => rw [hi] at h1; simp [kle] at h1
      | some i =>
        rw [hi] at h1
        exact ⟨x, k, i, hx, hk, hi, of_decide_eq_true h1⟩
    · cases e
theorem meet_in {l : List Tr} {t : Tr} {r c : Bx} {h : V3} (e : meet t r = some h) (ht : tMay t = true) (hc : okB c) (hin : inB (bOf t) c) : ∃ y k i, thru c r = some y ∧ okey h.1 = some k ∧ okey y.1 = some i ∧ i ≤ k := by
  obtain ⟨x, k, i, h1, h2, h3, h4⟩ := meet_thru e
  obtain ⟨y, g1, g2⟩ := thru_mono (bOf_ok ht) hc hin h1
  obtain ⟨i1, j1, i', j', w1, w2, w3, w4, w5, w6⟩ := g2.ex
  rw [w1] at h3; cases h3
  exact ⟨y, k, i', g1, h2, w3, by omega⟩
end Go.Proofs.Pen

namespace Go.Proofs.Pen
open Go Go.Proofs

theorem parted_perm (l : List Tr) (w : Bool) (s : List Int) : ((parted l w s).1 ++ (parted l w s).2).Perm s := by
  unfold parted
  split
  · have h := List.filter_append_perm (fun i => decide (bn l (mds l s) (lon (mds l s)) i < (picks l (mds l s) (lon (mds l s)) s 7).1)) s
    have e1 : cutL l (mds l s) (lon (mds l s)) (picks l (mds l s) (lon (mds l s)) s 7).1 true s = s.filter (fun i => decide (bn l (mds l s) (lon (mds l s)) i < (picks l (mds l s) (lon (mds l s)) s 7).1)) := by
      unfold cutL; congr 1; funext i; unfold cutP; simp
    have e2 : cutL l (mds l s) (lon (mds l s)) (picks l (mds l s) (lon (mds l s)) s 7).1 false s = s.filter (fun i => !decide (bn l (mds l s) (lon (mds l s)) i < (picks l (mds l s) (lon (mds l s)) s 7).1)) := by
      unfold cutL; congr 1; funext i; unfold cutP; simp
    rw [e1, e2]; exact h
  · unfold halves
    dsimp only
    rw [List.take_append_drop]
    exact insS_perm _ s
end Go.Proofs.Pen

namespace Go.Proofs.Pen
open Go Go.Proofs
theorem drop_mem {α : Type} {N A B : List α} {k : Nat} (h : N.drop k = A ++ B) {j : Nat} (hj : j < A.length) : ∃ hk : k + j < N.length, N[k + j] = A[j] := by
  have h1 : (N.drop k)[j]? = some A[j] := by rw [h, List.getElem?_append_left hj, List.getElem?_eq_getElem hj]
  rw [List.getElem?_drop] at h1
  obtain ⟨hk, he⟩ := List.getElem?_eq_some_iff.1 h1
  exact ⟨hk, he⟩
theorem drop_len {α : Type} {N A B : List α} {k : Nat} (h : N.drop k = A ++ B) (hA : 0 < A.length) : k + A.length ≤ N.length := by
  have := congrArg List.length h
  rw [List.length_drop, List.length_append] at this
  omega
theorem pre_head (l : List Tr) (w : Bool) (d : Nat) (s : List Int) (n0 o0 : Nat) : ∃ nd tl, (pre l w (d + 1) s n0 o0).1 = nd :: tl ∧ nd.1 = bxs l s := by
  unfold pre
  split
  · exact ⟨_, _, rfl, rfl⟩
  · exact ⟨_, _, rfl, rfl⟩
theorem head_at {l : List Tr} {w : Bool} {d : Nat} {s : List Int} {n0 o0 : Nat} {N R : List Nd} {k : Nat} (h : N.drop k = (pre l w (d + 1) s n0 o0).1 ++ R) : ∃ nd, lget N (k : Int) = some nd ∧ nd.1 = bxs l s := by
  obtain ⟨nd, tl, e1, e2⟩ := pre_head l w d s n0 o0
  rw [e1] at h
  obtain ⟨hk, e3, _⟩ := drop_at h
  exact ⟨nd, by rw [lget_nat N hk, e3], e2⟩

end Go.Proofs.Pen

namespace Go.Proofs.Pen
open Go Go.Proofs

def upd (g : Nat → Option V3) (b : Option (Nat × V3)) (j : Nat) : Option (Nat × V3) := match g j with
  | none => b
  | some h => match b with
    | none => some (j, h)
    | some x => if flt h.1 x.2.1 || (feq h.1 x.2.1 && decide (j < x.1)) then some (j, h) else b
structure BestOf (g : Nat → Option V3) (A : Nat → Prop) (b : Option (Nat × V3)) : Prop where
  non : b = none → ∀ j, A j → g j = none
  som : ∀ x, b = some x → A x.1 ∧ g x.1 = some x.2 ∧ ∀ j h, A j → g j = some h → kx x.2.1 < kx h.1 ∨ (kx x.2.1 = kx h.1 ∧ x.1 ≤ j)
theorem key_kx {a : Fl} (h : ∃ k, okey a = some k) : okey a = some (kx a) := by
  obtain ⟨k, h⟩ := h
  rw [h, kx_of h]
theorem upd_best {g : Nat → Option V3} (hg : Nums g) {A : Nat → Prop} {b : Option (Nat × V3)} (h : BestOf g A b) (j : Nat) : BestOf g (fun i => A i ∨ i = j) (upd g b j) := by
  unfold upd
  cases hj : g j with
  | none =>
    refine ⟨fun e i hi => ?_, fun x e => ?_⟩
    · rcases hi with hi | rfl
      · exact h.non e i hi
      · exact hj
    · obtain ⟨a1, a2, a3⟩ := h.som x e
      refine ⟨.inl a1, a2, fun i k hi hk => ?_⟩
      rcases hi with hi | rfl
      · exact a3 i k hi hk
      · rw [hj] at hk; cases hk
  | some v =>
    have kv := key_kx (hg j v hj)
    cases hb : b with
    | none =>
      refine ⟨nofun, fun x e => ?_⟩
      cases e
      refine ⟨.inr rfl, hj, fun i k hi hk => ?_⟩
      rcases hi with hi | rfl
      · rw [h.non hb i hi] at hk; cases hk
      · rw [hj] at hk; cases hk; exact .inr ⟨rfl, Nat.le_refl _⟩
    | some x =>
      obtain ⟨a1, a2, a3⟩ := h.som x hb
      have kxx := key_kx (hg x.1 x.2 a2)
      have e1 : flt v.1 x.2.1 = decide (kx v.1 < kx x.2.1) := by unfold flt; rw [ford_lt, kv, kxx]; rfl
      have e2 : feq v.1 x.2.1 = decide (kx v.1 = kx x.2.1) := by unfold feq; rw [ford_eqk, kv, kxx]; rfl
      dsimp only
      rw [e1, e2]
      split
      · rename_i hc
        simp only [Bool.or_eq_true, Bool.and_eq_true, decide_eq_true_eq] at hc
        refine ⟨nofun, fun y e => ?_⟩
        cases e
        refine ⟨.inr rfl, hj, fun i k hi hk => ?_⟩
        rcases hi with hi | rfl
        · have := a3 i k hi hk; dsimp only; omega
        · rw [hj] at hk; cases hk; exact .inr ⟨rfl, Nat.le_refl _⟩
      · rename_i hc
        simp only [Bool.or_eq_true, Bool.and_eq_true, decide_eq_true_eq] at hc
        refine ⟨nofun, fun y e => ?_⟩
        cases e
        refine ⟨.inl a1, a2, fun i k hi hk => ?_⟩
        rcases hi with hi | rfl
        · exact a3 i k hi hk
        · rw [hj] at hk; cases hk; omega
theorem BestOf.more {g : Nat → Option V3} {A B : Nat → Prop} {b : Option (Nat × V3)} (h : BestOf g A b) (hB : ∀ j, A j → B j) (hn : ∀ j, B j → A j ∨ g j = none) : BestOf g B b := by
  refine ⟨fun e j hj => ?_, fun x e => ?_⟩
  · rcases hn j hj with h1 | h1
    · exact h.non e j h1
    · exact h1
  · obtain ⟨a1, a2, a3⟩ := h.som x e
    refine ⟨hB _ a1, a2, fun j k hj hk => ?_⟩
    rcases hn j hj with h1 | h1
    · exact a3 j k h1 hk
    · rw [h1] at hk; cases hk
theorem BestOf.later {g : Nat → Option V3} {A B : Nat → Prop} {x : Nat × V3} (h : BestOf g A (some x)) (hB : ∀ j, A j → B j) (hn : ∀ j, B j → A j ∨ ∀ k, g j = some k → kx x.2.1 < kx k.1) : BestOf g B (some x) := by
  refine ⟨nofun, fun y e => ?_⟩
  cases e
  obtain ⟨a1, a2, a3⟩ := h.som x rfl
  refine ⟨hB _ a1, a2, fun j k hj hk => ?_⟩
  rcases hn j hj with h1 | h1
  · exact a3 j k h1 hk
  · exact .inl (h1 k hk)
theorem best_first {g : Nat → Option V3} (hg : Nums g) {n : Nat} {b : Option (Nat × V3)} (h : BestOf g (fun j => j < n) b) : b = fwd g n := by
  refine Best.unique (lo := 0) (hi := n) ⟨fun e j _ hj => h.non e j hj, fun x e => ?_⟩ (fwd_best hg n)
  obtain ⟨a1, a2, a3⟩ := h.som x e
  refine ⟨Nat.zero_le _, a1, a2, fun j k _ hj hk => ?_⟩
  have kk := key_kx (hg j k hk)
  have k2 := key_kx (hg x.1 x.2 a2)
  have := a3 j k hj hk
  rw [kk, k2]
  unfold klt kle
  simp only [decide_eq_true_eq]
  omega

theorem Better_eq (j i : Nat) (h x : V3) : tri_Better (((j : Int), h), ((i : Int), x)) = some (flt h.1 x.1 || (feq h.1 x.1 && decide (j < i))) := by
  unfold tri_Better tri_Better.t
  dsimp only
  rw [tr_ite]
  have hd : decide ((j : Int) < (i : Int)) = decide (j < i) := by rw [decide_eq_decide]; omega
  by_cases h1 : (((j : Int) == (i : Int)) && (ford h.1 x.1 == some Ordering.eq && (ford h.2.1 x.2.1 == some Ordering.eq && ford h.2.2 x.2.2 == some Ordering.eq)) || decide ((j : Int) < 0)) = true
  · rw [if_pos h1, tr_ret]
    have hj : decide ((j : Int) < 0) = false := by simp
    rw [hj, Bool.or_false, Bool.and_eq_true, Bool.and_eq_true] at h1
    have e1 : j = i := by have := h1.1; rw [beq_iff_eq] at this; omega
    have e2 := h1.2.1
    unfold flt
    have e3 : ford h.1 x.1 = some .eq := by simpa using e2
    rw [e3, e1]
    simp
  · rw [if_neg h1, tr_no (by simp), tr_ret, hd]
    rfl
theorem Better_upd (g : Nat → Option V3) (b : Option (Nat × V3)) (j : Nat) : ∃ c, tri_Better (toHt ((g j).map fun h => (j, h)), toHt b) = some c ∧ (c = false → upd g b j = b) ∧ (c = true → ∃ h, g j = some h ∧ upd g b j = some (j, h)) := by
  unfold upd
  cases g j with
  | none => exact ⟨false, Better_none _, fun _ => rfl, nofun⟩
  | some h =>
    cases b with
    | none => exact ⟨true, Better_first j h, nofun, fun _ => ⟨h, rfl, rfl⟩⟩
    | some x =>
      refine ⟨_, Better_eq j x.1 h x.2, fun e => ?_, fun e => ⟨h, rfl, ?_⟩⟩
      · dsimp only; rw [e]; rfl
      · dsimp only; rw [e]; rfl
end Go.Proofs.Pen

namespace Go.Proofs.Pen
open Go Go.Proofs

def eO (b : Option (Nat × V3)) : Fl := match b with
  | some x => x.2.1
  | none => f0
def updL (g : Nat → Option V3) (b : Option (Nat × V3)) (s : List Int) : Option (Nat × V3) := s.foldl (fun b j => upd g b j.toNat) b
theorem Tri_eq (N : List Nd) (O : List Int) {k : Nat} (hk : k < O.length) : bvh_Tree_Tri ((N, O), (k : Int)) = some O[k] := by
  unfold bvh_Tree_Tri bvh_Tree_Tri.t
  dsimp only
  rw [tr_no (by simp), tr_no (decide_eq_false (by omega)), tr_opt, lget_nat O hk, Option.bind_some, tr_ret]
theorem askI_eq (l : List Tr) (skip : List Int) (r : Bx) (hs : skip.length < 1000) {i : Int} (hi : 0 ≤ i ∧ i < (l.length : Int)) :
    hit_asker_1 (i, l, skip, r) = some (toHt ((ask l skip r i.toNat).map fun h => (i.toNat, h))) := by
  obtain ⟨k, rfl⟩ : ∃ k : Nat, i = k := ⟨i.toNat, by omega⟩
  rw [Int.toNat_natCast]
  exact asker_eq l skip r hs (by omega)
theorem drop_take {α : Type} {O A B : List α} {o : Nat} (h : O.drop o = A ++ B) {k : Nat} (hk : k < A.length) : (O.drop o).take (k + 1) = (O.drop o).take k ++ [A[k]] := by
  rw [h, List.take_append_of_le_length (by omega), List.take_append_of_le_length (by omega), List.take_succ_eq_append_getElem hk]

theorem leafF (l : List Tr) (skip : List Int) (r : Bx) (z : Ht) (N : List Nd) (O : List Int) (wait : List Int) (b : Option (Nat × V3)) (seen : Int) (nd : Nd) (L R : List Int) (o : Nat) (hsk : skip.length < 1000) (hL : okS l L) (hO : O.length < 900) (hd : O.drop o = L ++ R) (hl4 : L.length < 900) (hnd : nd.2.2.2.2 = ((o + L.length : Nat) : Int)) :
    eachFirst.l2 (z, toHt b, (l, skip, r), (N, O), ((N, O), r, wait, ()), eO b, b.isSome, seen, nd, (o : Int), ()) = some (.exit 2, z, toHt (updL (ask l skip r) b L), (l, skip, r), (N, O), ((N, O), r, wait, ()), eO (updL (ask l skip r) b L), (updL (ask l skip r) b L).isSome, seen, nd, ((o + L.length : Nat) : Int), ()) := by
  have h := iter_count (t := eachFirst.t2) (fun k => (z, toHt (updL (ask l skip r) b ((O.drop o).take (k - o))), (l, skip, r), (N, O), ((N, O), r, wait, ()), eO (updL (ask l skip r) b ((O.drop o).take (k - o))), (updL (ask l skip r) b ((O.drop o).take (k - o))).isSome, seen, nd, (k : Int), ())) (e := .exit 2) (z := (z, toHt (updL (ask l skip r) b L), (l, skip, r), (N, O), ((N, O), r, wait, ()), eO (updL (ask l skip r) b L), (updL (ask l skip r) b L).isSome, seen, nd, ((o + L.length : Nat) : Int), ())) (by simp) L.length o rounds (fun k hk1 hk2 => by
    obtain ⟨hk, he⟩ := drop_mem hd (j := k - o) (by omega)
    have hko : o + (k - o) = k := by omega
    simp only [hko] at hk he
    have hmem : O[k] ∈ L := by rw [he]; exact List.getElem_mem _
    have htk := drop_take hd (k := k - o) (by omega)
    rw [← he] at htk
    have hs1 : k + 1 - o = k - o + 1 := by omega
    rw [hs1, htk]
    generalize (O.drop o).take (k - o) = P
    have hup : updL (ask l skip r) b (P ++ [O[k]]) = upd (ask l skip r) (updL (ask l skip r) b P) O[k].toNat := by unfold updL; rw [List.foldl_append]; rfl
    rw [hup]
    generalize updL (ask l skip r) b P = c
    obtain ⟨q, q1, q2, q3⟩ := Better_upd (ask l skip r) c O[k].toNat
    unfold eachFirst.t2
    dsimp only
    rw [tr_yes (by rw [hnd]; simp; omega), tr_opt, Tri_eq N O hk, Option.bind_some, tr_opt, askI_eq l skip r hsk (hL _ hmem), Option.bind_some, tr_opt, q1, Option.bind_some, W_succ (by omega), List.take_length]
    cases q with
    | false => rw [tr_yes (by rfl), tr_ret, q2 rfl]
    | true =>
      obtain ⟨h, e1, e2⟩ := q3 rfl
      rw [tr_no (by rfl), tr_ret, e2, e1]
      rfl) (by
    unfold eachFirst.t2
    dsimp only
    rw [tr_no (by rw [hnd]; simp), tr_ret, List.take_length, show o + L.length - o = L.length by omega, hd, List.take_left]) (rounds_gt (by omega))
  rw [Nat.sub_self, List.take_zero] at h
  exact h
theorem updL_best {g : Nat → Option V3} (hg : Nums g) : ∀ (s : List Int) (A : Nat → Prop) (b : Option (Nat × V3)), BestOf g A b → BestOf g (fun i => A i ∨ ∃ j ∈ s, j.toNat = i) (updL g b s)
  | [], A, b, h => h.more (fun j hj => .inl hj) (fun j hj => by
      rcases hj with hj | ⟨_, hj, _⟩
      · exact .inl hj
      · cases hj)
  | j :: s, A, b, h => by
    have ih := updL_best hg s _ _ (upd_best hg h j.toNat)
    refine BestOf.more (A := fun i => (A i ∨ i = j.toNat) ∨ ∃ k ∈ s, k.toNat = i) ih (fun i hi => ?_) (fun i hi => ?_)
    · rcases hi with (hi | hi) | ⟨k, hk, hi⟩
      · exact .inl hi
      · exact .inr ⟨j, by simp, hi.symm⟩
      · exact .inr ⟨k, by simp [hk], hi⟩
    · refine .inl ?_
      rcases hi with hi | ⟨k, hk, hi⟩
      · exact .inl (.inl hi)
      · rcases List.mem_cons.1 hk with rfl | hk
        · exact .inl (.inr hi.symm)
        · exact .inr ⟨k, hk, hi⟩
end Go.Proofs.Pen

namespace Go.Proofs.Pen
open Go Go.Proofs

theorem NodeAt (N : List Nd) (O : List Int) {k : Nat} (hk : k < N.length) : bvh_Tree_Node ((N, O), (k : Int)) = some (N[k], true) := by
  unfold bvh_Tree_Node bvh_Tree_Node.t
  dsimp only
  rw [tr_no (by simp), tr_no (by simp; omega), tr_opt, lget_nat N hk, Option.bind_some, tr_ret]
def pushed (st : List Int) (i : Int) (b r : Bx) : List Int := if (thru b r).isSome then st ++ [i] else st
theorem thr_ok (b r : Bx) : (thr b r).2.2 = (thru b r).isSome := by
  unfold thr; cases thru b r <;> rfl

section
variable (l : List Tr) (skip : List Int) (r : Bx) (z : Ht) (N : List Nd) (O : List Int)
theorem popF (st : List Int) (n0 : Nat) (hst : st.length < 900) :
    (decide (((st ++ [(n0 : Int)]).length : Int) > 0) = true) ∧ W (((st ++ [(n0 : Int)]).length : Int) - 1) = (st.length : Int) ∧ (st ++ [(n0 : Int)])[0 + Int.toNat (st.length : Int)]? = some (n0 : Int) ∧ (decide ((0 : Int) ≤ (st.length : Int)) && decide ((st.length : Int) < ((st ++ [(n0 : Int)]).length : Int))) = true ∧ (decide ((0 : Int) ≤ 0) && decide ((0 : Int) ≤ (st.length : Int)) && decide ((st.length : Int) ≤ ((st ++ [(n0 : Int)]).length : Int))) = true ∧ List.take ((st.length : Int).toNat - Int.toNat 0) (st ++ [(n0 : Int)]) = st := by
  refine ⟨decide_eq_true (by rw [List.length_append, List.length_cons, List.length_nil]; omega), ?_, ?_, by simp; omega, by simp; omega, by simp⟩
  · rw [show (((st ++ [(n0 : Int)]).length : Int) - 1) = (st.length : Int) by simp, W_id (by omega) (by omega)]
  · rw [Nat.zero_add, Int.toNat_natCast]; simp
theorem skipF (st : List Int) (n0 : Nat) (b : Option (Nat × V3)) (seen : Nat) (hst : st.length < 900) (hse : seen < 900) (hn : n0 < N.length) (hb : b.isSome = true) (hfar : fgt (thr N[n0].1 r).1 (eO b) = true) :
    (eachFirst.t0 (z, toHt b, (l, skip, r), (N, O), ((N, O), r, st ++ [(n0 : Int)], ()), eO b, b.isSome, (seen : Int), ())).run = some (.normal, z, toHt b, (l, skip, r), (N, O), ((N, O), r, st, ()), eO b, b.isSome, ((seen + 1 : Nat) : Int), ()) := by
  obtain ⟨p1, p2, p3, p4, p5, p6⟩ := popF st n0 hst
  have hc : (b.isSome && (ford (thr N[n0].1 r).1 (eO b) == some Ordering.gt)) = true := by rw [hb]; exact hfar
  unfold eachFirst.t0
  dsimp only
  rw [tr_yes p1, p2, tr_yes p4, tr_opt, p3, Option.bind_some, tr_yes p5, tr_opt, NodeAt N O hn, Option.bind_some, tr_opt, box_Through_eq, Option.bind_some, tr_yes hc, tr_ret, p6, W_succ (by omega)]
theorem leafStepF (st : List Int) (n0 : Nat) (b : Option (Nat × V3)) (seen : Nat) (s : List Int) (o : Nat) (R : List Int) (hst : st.length < 900) (hse : seen < 900) (hn : n0 < N.length) (hfar : (b.isSome && fgt (thr N[n0].1 r).1 (eO b)) = false) (hsk : skip.length < 1000) (hL : okS l s) (hl : s.length < 900) (hO : O.length < 900) (hd : O.drop o = insS lessI s ++ R) (bx : Bx) (hnd : N[n0] = (bx, 0, 0, (o : Int), ((o + s.length : Nat) : Int))) :
    (eachFirst.t0 (z, toHt b, (l, skip, r), (N, O), ((N, O), r, st ++ [(n0 : Int)], ()), eO b, b.isSome, (seen : Int), ())).run = some (.normal, z, toHt (updL (ask l skip r) b (insS lessI s)), (l, skip, r), (N, O), ((N, O), r, st, ()), eO (updL (ask l skip r) b (insS lessI s)), (updL (ask l skip r) b (insS lessI s)).isSome, ((seen + 1 : Nat) : Int), ()) := by
  obtain ⟨p1, p2, p3, p4, p5, p6⟩ := popF st n0 hst
  have hlen : (insS lessI s).length = s.length := (insS_perm _ s).length_eq
  have hc : (b.isSome && (ford (thr N[n0].1 r).1 (eO b) == some Ordering.gt)) = false := hfar
  have hl2 := leafF l skip r z N O st b ((seen + 1 : Nat) : Int) N[n0] (insS lessI s) R o hsk (fun i hi => hL i ((insS_perm lessI s).mem_iff.1 hi)) hO hd (by omega) (by rw [hnd, hlen])
  unfold eachFirst.t0
  dsimp only
  rw [tr_yes p1, p2, tr_yes p4, tr_opt, p3, Option.bind_some, tr_yes p5, tr_opt, NodeAt N O hn, Option.bind_some, tr_opt, box_Through_eq, Option.bind_some, tr_no hc, tr_opt, p6, W_succ (by omega)]
  refine bind_of (y := _) (by rw [hnd] at hl2 ⊢; exact hl2) ?_
  dsimp only
  rw [tr_yes (by rfl), tr_no (by rfl), tr_ret, List.take_length]
theorem nodeStepF (st : List Int) (n0 a c : Nat) (b : Option (Nat × V3)) (seen : Nat) (hst : st.length < 800) (hse : seen < 900) (hn : n0 < N.length) (hfar : (b.isSome && fgt (thr N[n0].1 r).1 (eO b)) = false) (bx : Bx) (ha0 : 0 < a) (ha : a < N.length) (hc : c < N.length) (hnd : N[n0] = (bx, (a : Int), (c : Int), 0, 0)) :
    (eachFirst.t0 (z, toHt b, (l, skip, r), (N, O), ((N, O), r, st ++ [(n0 : Int)], ()), eO b, b.isSome, (seen : Int), ())).run = some (.normal, z, toHt b, (l, skip, r), (N, O), ((N, O), r, pushed (pushed st (c : Int) N[c].1 r) (a : Int) N[a].1 r, ()), eO b, b.isSome, ((seen + 1 : Nat) : Int), ()) := by
  obtain ⟨p1, p2, p3, p4, p5, p6⟩ := popF st n0 (by omega)
  have hcc : (b.isSome && (ford (thr N[n0].1 r).1 (eO b) == some Ordering.gt)) = false := hfar
  have hl2 : eachFirst.l2 (z, toHt b, (l, skip, r), (N, O), ((N, O), r, st, ()), eO b, b.isSome, ((seen + 1 : Nat) : Int), N[n0], 0, ()) = some (.exit 2, z, toHt b, (l, skip, r), (N, O), ((N, O), r, st, ()), eO b, b.isSome, ((seen + 1 : Nat) : Int), N[n0], 0, ()) := by
    obtain ⟨q, hr⟩ : ∃ r, rounds = r + 1 := ⟨rounds - 1, by have := rounds_gt (n := 1) (by omega); omega⟩
    show (iterT eachFirst.t2 rounds _).run = _
    rw [hr, iter_step (e := .exit 2) (by unfold eachFirst.t2; dsimp only; rw [tr_no (by rw [hnd]; rfl), tr_ret, List.take_length])]
  unfold eachFirst.t0
  dsimp only
  rw [tr_yes p1, p2, tr_yes p4, tr_opt, p3, Option.bind_some, tr_yes p5, tr_opt, NodeAt N O hn, Option.bind_some, tr_opt, box_Through_eq, Option.bind_some, tr_no hcc, tr_opt, p6, W_succ (by omega)]
  refine bind_of (y := _) (by rw [hnd] at hl2 ⊢; exact hl2) ?_
  dsimp only
  rw [tr_yes (by rfl), tr_yes (by simp; omega), tr_opt, NodeAt N O hc, Option.bind_some, tr_no (by rfl), tr_opt, box_Through_eq, Option.bind_some, thr_ok]
  unfold pushed
  cases hR : (thru N[c].1 r).isSome with
  | true =>
    rw [tr_yes rfl, tr_yes (decide_eq_true (room (by omega) (by decide))), tr_opt, NodeAt N O ha, Option.bind_some, tr_no (by rfl), tr_opt, box_Through_eq, Option.bind_some, thr_ok, if_pos rfl, take_all]
    cases hA : (thru N[a].1 r).isSome with
    | true =>
      rw [tr_yes rfl, tr_yes (by unfold most; simp; omega), tr_ret, if_pos rfl, List.take_of_length_le (by simp)]
    | false => rw [tr_no rfl, tr_ret, if_neg (by simp)]
  | false =>
    rw [tr_no rfl, tr_opt, NodeAt N O ha, Option.bind_some, tr_no (by rfl), tr_opt, box_Through_eq, Option.bind_some, thr_ok, if_neg (show ¬ false = true by simp)]
    cases hA : (thru N[a].1 r).isSome with
    | true => rw [tr_yes rfl, tr_yes (decide_eq_true (room (by omega) (by decide))), tr_ret, if_pos rfl, take_all]
    | false => rw [tr_no rfl, tr_ret, if_neg (by simp), List.take_length]
end
end Go.Proofs.Pen

namespace Go.Proofs.Pen
open Go Go.Proofs

theorem ask_meet {l : List Tr} {skip : List Int} {r : Bx} {j : Int} (hj : 0 ≤ j ∧ j < (l.length : Int)) {h : V3} (e : ask l skip r j.toNat = some h) : meet (trA l j) r = some h := by
  have ht := lget_tr hj
  unfold lget at ht
  rw [if_neg (by omega)] at ht
  unfold ask at e
  rw [ht] at e
  dsimp only at e
  split at e
  · cases e
  · exact e
theorem below_node {l : List Tr} {skip : List Int} {r : Bx} {s : List Int} (hL : okL l) (hs : okS l s) {j : Int} (hj : j ∈ s) {h : V3} (e : ask l skip r j.toNat = some h) : ∃ y i, thru (bxs l s) r = some y ∧ okey y.1 = some i ∧ i ≤ kx h.1 := by
  obtain ⟨c1, c2⟩ := bxs_ok hL hs (List.ne_nil_of_mem hj)
  obtain ⟨y, k, i, h1, h2, h3, h4⟩ := meet_in (l := l) (ask_meet (hs j hj) e) (trA_may hL (hs j hj)) c1 (c2 j hj)
  exact ⟨y, i, h1, h3, by rw [kx_of h2]; exact h4⟩

section
variable (l : List Tr) (skip : List Int) (r : Bx) (z : Ht) (N : List Nd) (O : List Int)
def SF (b : Option (Nat × V3)) (wait : List Int) (seen : Nat) : Ht × Ht × (List Tr × List Int × Bx) × (List Nd × List Int) × ((List Nd × List Int) × Bx × List Int × Unit) × Fl × Bool × Int × Unit := (z, toHt b, (l, skip, r), (N, O), ((N, O), r, wait, ()), eO b, b.isSome, (seen : Int), ())
structure WalkedF (s : List Int) (st1 st : List Int) (b : Option (Nat × V3)) (seen cnt : Nat) (A : Nat → Prop) : Prop where
  ex : ∃ (k : Nat) (b' : Option (Nat × V3)), k ≤ cnt ∧ BestOf (ask l skip r) (fun j => A j ∨ ∃ i ∈ s, i.toNat = j) b' ∧ ∀ m, (iterT eachFirst.t0 (m + k) (SF l skip r z N O b st1 seen)).run = (iterT eachFirst.t0 m (SF l skip r z N O b' st (seen + k))).run
theorem childF {s : List Int} {st : List Int} {b : Option (Nat × V3)} {seen cnt : Nat} {A : Nat → Prop} (hL : okL l) (hs : okS l s) (hb : BestOf (ask l skip r) A b) (n0 : Nat) (h : (thru (bxs l s) r).isSome = true → WalkedF l skip r z N O s (st ++ [(n0 : Int)]) st b seen cnt A) : WalkedF l skip r z N O s (pushed st (n0 : Int) (bxs l s) r) st b seen cnt A := by
  unfold pushed
  cases hp : (thru (bxs l s) r).isSome with
  | true => rw [if_pos rfl]; exact h hp
  | false =>
    rw [if_neg (by simp)]
    refine ⟨0, b, Nat.zero_le _, hb.more (fun j hj => .inl hj) (fun j hj => ?_), fun m => rfl⟩
    rcases hj with hj | ⟨i, hi, rfl⟩
    · exact .inl hj
    · refine .inr ?_
      cases e : ask l skip r i.toNat with
      | none => rfl
      | some h =>
        obtain ⟨y, _, h1, _⟩ := below_node hL hs hi e
        rw [h1] at hp; cases hp
theorem walkF (w : Bool) (hL : okL l) (hsk : skip.length < 1000) (hN : N.length < 900) (hO : O.length < 900) : ∀ (d : Nat) (s : List Int) (st : List Int) (n0 o : Nat) (b : Option (Nat × V3)) (seen : Nat) (A : Nat → Prop) (rest : List Nd) (rest2 : List Int), okS l s → s.length ≤ d → st.length + s.length < 800 → seen + (pre l w (d + 1) s n0 o).1.length < 900 → N.drop n0 = (pre l w (d + 1) s n0 o).1 ++ rest → O.drop o = (pre l w (d + 1) s n0 o).2 ++ rest2 → BestOf (ask l skip r) A b →
    WalkedF l skip r z N O s (st ++ [(n0 : Int)]) st b seen (pre l w (d + 1) s n0 o).1.length A
  | d, s, st, n0, o, b, seen, A, rest, rest2, hs, hd, hst, hse, hdr, hdo, hb => by
    have hsz := pre_size l w d s n0 o hs hd
    obtain ⟨nd, tl, hh1, hh2⟩ := pre_head l w d s n0 o
    have hdr0 := hdr
    rw [hh1] at hdr0
    obtain ⟨hk, hnd, _⟩ := drop_at hdr0
    have hbox : N[n0].1 = bxs l s := by rw [hnd]; exact hh2
    cases hfar : (b.isSome && fgt (thr N[n0].1 r).1 (eO b)) with
    | true =>
      rw [Bool.and_eq_true] at hfar
      have hs1 := skipF l skip r z N O st n0 b seen (by omega) (by omega) hk hfar.1 hfar.2
      cases hbx : b with
      | none => rw [hbx] at hfar; cases hfar.1
      | some x =>
        rw [hbx] at hb hfar hs1
        refine ⟨1, some x, hsz.2.1, hb.later (fun j hj => .inl hj) (fun j hj => ?_), fun m => iter_step hs1⟩
        rcases hj with hj | ⟨i, hi, rfl⟩
        · exact .inl hj
        · refine .inr fun h e => ?_
          obtain ⟨y, q, h1, h2, h3⟩ := below_node hL hs hi e
          obtain ⟨_, a2, _⟩ := hb.som x rfl
          have kk := key_kx (ask_num l skip r x.1 x.2 a2)
          have hf := hfar.2
          unfold thr at hf
          rw [hbox, h1] at hf
          have hf : fgt y.1 x.2.1 = true := hf
          unfold fgt at hf
          rw [ford_gt, kk, h2] at hf
          have := of_decide_eq_true hf
          omega
    | false =>
      by_cases h4 : s.length ≤ 4
      · have hp : pre l w (d + 1) s n0 o = ([(bxs l s, 0, 0, (o : Int), ((o + s.length : Nat) : Int))], insS lessI s) := by unfold pre; rw [if_pos h4]
        rw [hp] at hdr hdo ⊢
        obtain ⟨_, hnd, _⟩ := drop_at (A := []) hdr
        have hs1 := leafStepF l skip r z N O st n0 b seen s o rest2 (by omega) (by omega) hk hfar hsk hs (by omega) hO hdo _ hnd
        refine ⟨1, _, Nat.le_refl _, (updL_best (ask_num l skip r) (insS lessI s) A b hb).more (fun j hj => ?_) (fun j hj => .inl ?_), fun m => iter_step hs1⟩
        · rcases hj with hj | ⟨i, hi, e⟩
          · exact .inl hj
          · exact .inr ⟨i, (insS_perm lessI s).mem_iff.1 hi, e⟩
        · rcases hj with hj | ⟨i, hi, e⟩
          · exact .inl hj
          · exact .inr ⟨i, (insS_perm lessI s).mem_iff.2 hi, e⟩
      · cases d with
        | zero => omega
        | succ d =>
          obtain ⟨p1, p2, p3, p4, p5⟩ := parted_ok w hs (by omega)
          have q3 := List.length_pos_iff.2 p3
          have q4 := List.length_pos_iff.2 p4
          have hpm := parted_perm l w s
          obtain ⟨a1, a2, _, _⟩ := pre_size l w d (parted l w s).1 (n0 + 1) o p1 (by omega)
          obtain ⟨b1, b2, _, _⟩ := pre_size l w d (parted l w s).2 (n0 + 1 + (pre l w (d + 1) (parted l w s).1 (n0 + 1) o).1.length) (o + (pre l w (d + 1) (parted l w s).1 (n0 + 1) o).2.length) p2 (by omega)
          have hp : pre l w (d + 1 + 1) s n0 o = ((bxs l s, ((n0 + 1 : Nat) : Int), ((n0 + 1 + (pre l w (d + 1) (parted l w s).1 (n0 + 1) o).1.length : Nat) : Int), 0, 0) :: ((pre l w (d + 1) (parted l w s).1 (n0 + 1) o).1 ++ (pre l w (d + 1) (parted l w s).2 (n0 + 1 + (pre l w (d + 1) (parted l w s).1 (n0 + 1) o).1.length) (o + (pre l w (d + 1) (parted l w s).1 (n0 + 1) o).2.length)).1), (pre l w (d + 1) (parted l w s).1 (n0 + 1) o).2 ++ (pre l w (d + 1) (parted l w s).2 (n0 + 1 + (pre l w (d + 1) (parted l w s).1 (n0 + 1) o).1.length) (o + (pre l w (d + 1) (parted l w s).1 (n0 + 1) o).2.length)).2) := by
            show (if s.length ≤ 4 then _ else _) = _
            rw [if_neg h4]
          rw [hp] at hdr hdo hse ⊢
          have i1 := fun st b seen A => walkF w hL hsk hN hO d (parted l w s).1 st (n0 + 1) o b seen A ((pre l w (d + 1) (parted l w s).2 (n0 + 1 + (pre l w (d + 1) (parted l w s).1 (n0 + 1) o).1.length) (o + (pre l w (d + 1) (parted l w s).1 (n0 + 1) o).2.length)).1 ++ rest) ((pre l w (d + 1) (parted l w s).2 (n0 + 1 + (pre l w (d + 1) (parted l w s).1 (n0 + 1) o).1.length) (o + (pre l w (d + 1) (parted l w s).1 (n0 + 1) o).2.length)).2 ++ rest2) p1 (by omega)
          have i2 := fun st b seen A => walkF w hL hsk hN hO d (parted l w s).2 st (n0 + 1 + (pre l w (d + 1) (parted l w s).1 (n0 + 1) o).1.length) (o + (pre l w (d + 1) (parted l w s).1 (n0 + 1) o).2.length) b seen A rest rest2 p2 (by omega)
          have hh1 := fun R k (h : N.drop k = _ ++ R) => head_at (l := l) (w := w) (d := d) (s := (parted l w s).1) (n0 := n0 + 1) (o0 := o) h
          have hh2 := fun R k (h : N.drop k = _ ++ R) => head_at (l := l) (w := w) (d := d) (s := (parted l w s).2) (n0 := n0 + 1 + (pre l w (d + 1) (parted l w s).1 (n0 + 1) o).1.length) (o0 := o + (pre l w (d + 1) (parted l w s).1 (n0 + 1) o).2.length) h
          clear hp hsz
          generalize pre l w (d + 1) (parted l w s).2 (n0 + 1 + (pre l w (d + 1) (parted l w s).1 (n0 + 1) o).1.length) (o + (pre l w (d + 1) (parted l w s).1 (n0 + 1) o).2.length) = Y at *
          generalize pre l w (d + 1) (parted l w s).1 (n0 + 1) o = X at *
          obtain ⟨_, hnd, hdr1⟩ := drop_at (A := X.1 ++ Y.1) hdr
          rw [List.append_assoc] at hdr1 hdo
          have hdr2 := drop_more hdr1
          have hdo2 := drop_more hdo
          have hnl := drop_len hdr2 (by omega)
          have hol := drop_len hdo (by omega)
          obtain ⟨n1, g1, g2⟩ := hh1 _ _ hdr1
          obtain ⟨n2, g3, g4⟩ := hh2 _ _ hdr2
          rw [lget_nat N (by omega)] at g1 g3
          have g1 := Option.some.inj g1
          have g3 := Option.some.inj g3
          dsimp only [List.length_cons] at hse ⊢
          simp only [List.length_cons, List.length_append] at hse ⊢
          have hs1 := nodeStepF l skip r z N O st n0 (n0 + 1) (n0 + 1 + X.1.length) b seen (by omega) (by omega) hk hfar _ (by omega) (by omega) (by omega) hnd
          rw [g1, g3, g2, g4] at hs1
          have hstl : (pushed st ((n0 + 1 + X.1.length : Nat) : Int) (bxs l (parted l w s).2) r).length ≤ st.length + 1 := by unfold pushed; split <;> simp
          obtain ⟨k1, b1', w1, w2, w3⟩ := (childF l skip r z N O (st := pushed st ((n0 + 1 + X.1.length : Nat) : Int) (bxs l (parted l w s).2) r) (seen := seen + 1) (cnt := X.1.length) hL p1 hb (n0 + 1) fun _ => i1 _ b (seen + 1) A (by omega) (by omega) hdr1 hdo hb).ex
          obtain ⟨k2, b2', v1, v2, v3⟩ := (childF l skip r z N O (st := st) (seen := seen + 1 + k1) (cnt := Y.1.length) hL p2 w2 (n0 + 1 + X.1.length) fun _ => i2 _ b1' (seen + 1 + k1) _ (by omega) (by omega) hdr2 hdo2 w2).ex
          refine ⟨k2 + k1 + 1, b2', by omega, v2.more (fun j hj => ?_) (fun j hj => .inl ?_), fun m => ?_⟩
          · rcases hj with (hj | ⟨i, hi, e⟩) | ⟨i, hi, e⟩
            · exact .inl hj
            · exact .inr ⟨i, hpm.mem_iff.1 (List.mem_append_left _ hi), e⟩
            · exact .inr ⟨i, hpm.mem_iff.1 (List.mem_append_right _ hi), e⟩
          · rcases hj with hj | ⟨i, hi, e⟩
            · exact .inl (.inl hj)
            · rcases List.mem_append.1 (hpm.mem_iff.2 hi) with h | h
              · exact .inl (.inr ⟨i, h, e⟩)
              · exact .inr ⟨i, h, e⟩
          · have e1 : m + (k2 + k1 + 1) = m + k2 + k1 + 1 := by omega
            have e2 : seen + (k2 + k1 + 1) = seen + 1 + k1 + k2 := by omega
            rw [e1, e2]
            exact (iter_step hs1).trans ((w3 (m + k2)).trans (v3 m))
end
end Go.Proofs.Pen

namespace Go.Proofs.Pen
open Go Go.Proofs

theorem tree_at (l : List Tr) (w : Bool) (hl : l.length ≤ 512) {N : List Nd} {O : List Int} (hT : treeOf l w = (N, O)) : pre l w (999 + 1) (nums l.length) 0 0 = (N, O) ∧ ∃ hk : 0 < N.length, N[0].1 = bxs l (nums l.length) := by
  have hp : pre l w (999 + 1) (nums l.length) 0 0 = (N, O) := hT
  obtain ⟨nd, h1, h2⟩ := head_at (l := l) (w := w) (d := 999) (s := nums l.length) (n0 := 0) (o0 := 0) (N := N) (R := []) (k := 0) (by rw [hp, List.append_nil]; rfl)
  have hs := pre_size l w 999 (nums l.length) 0 0 (nums_ok l) (by rw [nums_len]; omega)
  rw [hp] at hs
  have hk : 0 < N.length := hs.2.1
  refine ⟨hp, hk, ?_⟩
  rw [show ((0 : Nat) : Int) = ((0 : Nat) : Int) from rfl, lget_nat N hk] at h1
  rw [Option.some.inj h1]; exact h2
theorem best_none (g : Nat → Option V3) : BestOf g (fun _ => False) none := ⟨fun _ _ h => h.elim, nofun⟩
theorem mem_nums {n j : Nat} : (∃ i ∈ nums n, i.toNat = j) ↔ j < n := by
  constructor
  · rintro ⟨i, hi, rfl⟩
    obtain ⟨k, hk, rfl⟩ := List.mem_map.1 hi
    have := List.mem_range.1 hk
    omega
  · intro h
    exact ⟨(j : Int), List.mem_map.2 ⟨j, List.mem_range.2 h, rfl⟩, by omega⟩
theorem exitF (l : List Tr) (skip : List Int) (r : Bx) (z : Ht) (N : List Nd) (O : List Int) (b : Option (Nat × V3)) (seen : Nat) (m : Nat) : (iterT eachFirst.t0 (m + 1) (SF l skip r z N O b [] seen)).run = some (.exit 0, SF l skip r z N O b [] seen) := by
  rw [iter_step (e := .exit 0) (by unfold eachFirst.t0 SF; rw [tr_no (by rfl), tr_ret])]
  rfl
theorem First_run (l : List Tr) (w : Bool) (skip : List Int) (r : Bx) (z : Ht) (hL : okL l) (hl : l.length ≤ 200) (hsk : skip.length < 1000) {N : List Nd} {O : List Int} (hT : treeOf l w = (N, O)) : ∃ x, eachFirst.l0 (SF l skip r z N O none (pushed [] 0 (bxs l (nums l.length)) r) 0) = some (.exit 0, x) ∧ x.2.1 = toHt (fwd (ask l skip r) l.length) := by
  obtain ⟨hp, hk, hbox⟩ := tree_at l w (by omega) hT
  have hsz := pre_size l w 999 (nums l.length) 0 0 (nums_ok l) (by rw [nums_len]; omega)
  have hwk := fun a b c => walkF l skip r z N O w hL hsk a b 999 (nums l.length) [] 0 0 none 0 (fun _ => False) [] [] (nums_ok l) (by rw [nums_len]; omega) (by rw [nums_len]; simp; omega) c (by rw [hp, List.append_nil]; rfl) (by rw [hp, List.append_nil]; rfl) (best_none _)
  rw [hp] at hsz hwk
  rw [nums_len] at hsz
  have hwk := hwk (by have := hsz.2.2.1; dsimp only at this; omega) (by have := hsz.1; dsimp only at this; omega) (by have := hsz.2.2.1; dsimp only at this ⊢; omega)
  obtain ⟨k, b', k1, k2, k3⟩ := (childF l skip r z N O (st := []) (seen := 0) hL (nums_ok l) (best_none _) 0 fun _ => hwk).ex
  obtain ⟨q, hr⟩ : ∃ q, rounds = q + 1 + k := ⟨rounds - 1 - k, by have := rounds_gt (n := 5000) (by omega); have := hsz.2.2.1; dsimp only at this k1; omega⟩
  refine ⟨SF l skip r z N O b' [] (0 + k), ?_, ?_⟩
  · show (iterT eachFirst.t0 rounds _).run = _
    rw [hr]
    exact (k3 (q + 1)).trans (exitF ..)
  · show toHt b' = _
    rw [best_first (ask_num l skip r) (k2.more (fun j hj => ?_) fun j hj => .inl (.inr (mem_nums.2 hj)))]
    rcases hj with hj | hj
    · exact hj.elim
    · exact mem_nums.1 hj
theorem hit_First_eq (l : List Tr) (w : Bool) (skip : List Int) (r : Bx) (hL : okL l) (hl : l.length ≤ 200) (hsk : skip.length < 1000) : hit_First (treeOf l w, l, r, skip) = some (toHt (fwd (ask l skip r) l.length)) := by
  generalize hT : treeOf l w = T
  obtain ⟨N, O⟩ := T
  obtain ⟨hp, hk, hbox⟩ := tree_at l w (by omega) hT
  have hrun := fun z => First_run l w skip r z hL hl hsk hT
  unfold hit_First hit_First.t
  dsimp only
  rw [tr_opt, show bvh_Tree_Node ((N, O), 0) = some (N[0], true) from NodeAt N O hk, Option.bind_some, tr_no (by rfl), tr_opt, box_Through_eq, Option.bind_some, thr_ok, hbox]
  unfold pushed at hrun
  cases hc : (thru (bxs l (nums l.length)) r).isSome with
  | true =>
    rw [hc] at hrun
    obtain ⟨x, h1, h2⟩ := hrun (0, f0, f0, f0)
    rw [if_pos rfl] at h1
    rw [tr_yes rfl, tr_yes (by decide), tr_opt]
    refine bind_of h1 ?_
    rw [tr_yes (by rfl), tr_ret]
    exact congrArg some h2
  | false =>
    rw [hc] at hrun
    obtain ⟨x, h1, h2⟩ := hrun (0, f0, f0, f0)
    rw [if_neg (by simp)] at h1
    rw [tr_no rfl, tr_opt]
    refine bind_of h1 ?_
    rw [tr_yes (by rfl), tr_ret]
    exact congrArg some h2
end Go.Proofs.Pen

namespace Go.Proofs.Pen
open Go Go.Proofs

def eA (c : Bool) : Fl := if c then some 13830554455654793216 else f0
def updA (g : Nat → Option V3) (m : Fl) (c : Bool) (s : List Int) : Bool := s.foldl (fun c j => c || blk g m j.toNat) c
theorem ask_lt (g : Nat → Option V3) (m : Fl) (j : Nat) : (decide ((toHt ((g j).map fun h => (j, h))).1 ≥ 0) && (ford (toHt ((g j).map fun h => (j, h))).2.1 m == some Ordering.lt)) = blk g m j := by
  unfold blk
  cases g j with
  | none => rfl
  | some h =>
    show (decide ((j : Int) ≥ 0) && _) = _
    rw [decide_eq_true (show (j : Int) ≥ 0 by omega), Bool.true_and]; rfl
theorem leafA (l : List Tr) (skip : List Int) (r : Bx) (m : Fl) (N : List Nd) (O : List Int) (wait : List Int) (b : Bool) (seen : Int) (nd : Nd) (L R : List Int) (o : Nat) (hsk : skip.length < 1000) (hL : okS l L) (hO : O.length < 900) (hd : O.drop o = L ++ R) (hl4 : L.length < 900) (hnd : nd.2.2.2.2 = ((o + L.length : Nat) : Int)) :
    eachAny.l2 (m, b, (l, skip, r), (N, O), ((N, O), r, wait, ()), eA b, b, seen, nd, (o : Int), ()) = some (.exit 2, m, updA (ask l skip r) m b L, (l, skip, r), (N, O), ((N, O), r, wait, ()), eA (updA (ask l skip r) m b L), updA (ask l skip r) m b L, seen, nd, ((o + L.length : Nat) : Int), ()) := by
  have h := iter_count (t := eachAny.t2) (fun k => (m, updA (ask l skip r) m b ((O.drop o).take (k - o)), (l, skip, r), (N, O), ((N, O), r, wait, ()), eA (updA (ask l skip r) m b ((O.drop o).take (k - o))), updA (ask l skip r) m b ((O.drop o).take (k - o)), seen, nd, (k : Int), ())) (e := .exit 2) (z := (m, updA (ask l skip r) m b L, (l, skip, r), (N, O), ((N, O), r, wait, ()), eA (updA (ask l skip r) m b L), updA (ask l skip r) m b L, seen, nd, ((o + L.length : Nat) : Int), ())) (by simp) L.length o rounds (fun k hk1 hk2 => by
    obtain ⟨hk, he⟩ := drop_mem hd (j := k - o) (by omega)
    have hko : o + (k - o) = k := by omega
    simp only [hko] at hk he
    have hmem : O[k] ∈ L := by rw [he]; exact List.getElem_mem _
    have htk := drop_take hd (k := k - o) (by omega)
    rw [← he] at htk
    have hs1 : k + 1 - o = k - o + 1 := by omega
    rw [hs1, htk]
    generalize (O.drop o).take (k - o) = P
    have hup : updA (ask l skip r) m b (P ++ [O[k]]) = (updA (ask l skip r) m b P || blk (ask l skip r) m O[k].toNat) := by unfold updA; rw [List.foldl_append]; rfl
    rw [hup]
    generalize updA (ask l skip r) m b P = c
    have ha := ask_lt (ask l skip r) m O[k].toNat
    unfold eachAny.t2
    dsimp only
    rw [tr_yes (by rw [hnd]; simp; omega), tr_opt, Tri_eq N O hk, Option.bind_some, tr_opt, askI_eq l skip r hsk (hL _ hmem), Option.bind_some, W_succ (by omega), List.take_length, ha]
    cases blk (ask l skip r) m O[k].toNat with
    | true => rw [tr_yes rfl, tr_ret, Bool.or_true]; rfl
    | false =>
      rw [tr_no rfl, Bool.or_false]
      cases c with
      | true => rw [tr_yes rfl, tr_ret]; rfl
      | false => rw [tr_no rfl, tr_ret]) (by
    unfold eachAny.t2
    dsimp only
    rw [tr_no (by rw [hnd]; simp), tr_ret, List.take_length, show o + L.length - o = L.length by omega, hd, List.take_left]) (rounds_gt (by omega))
  rw [Nat.sub_self, List.take_zero] at h
  exact h
structure BlockOf (g : Nat → Option V3) (m : Fl) (n : Nat) (A : Nat → Prop) (c : Bool) : Prop where
  yes : c = true → ∃ j, j < n ∧ blk g m j = true
  no : c = false → ∀ j, A j → blk g m j = false
theorem BlockOf.more {g : Nat → Option V3} {m : Fl} {n : Nat} {A B : Nat → Prop} {c : Bool} (h : BlockOf g m n A c) (hn : c = false → ∀ j, B j → A j ∨ g j = none) : BlockOf g m n B c := by
  refine ⟨h.yes, fun e j hj => ?_⟩
  rcases hn e j hj with h1 | h1
  · exact h.no e j h1
  · unfold blk; rw [h1]
theorem updA_block {g : Nat → Option V3} {m : Fl} {n : Nat} : ∀ (s : List Int) (A : Nat → Prop) (c : Bool), (∀ i ∈ s, i.toNat < n) → BlockOf g m n A c → BlockOf g m n (fun i => A i ∨ ∃ j ∈ s, j.toNat = i) (updA g m c s)
  | [], A, c, _, h => h.more fun _ j hj => by
      rcases hj with hj | ⟨_, hj, _⟩
      · exact .inl hj
      · cases hj
  | j :: s, A, c, hs, h => by
    have h1 : BlockOf g m n (fun i => A i ∨ i = j.toNat) (c || blk g m j.toNat) := by
      refine ⟨fun e => ?_, fun e i hi => ?_⟩
      · rw [Bool.or_eq_true] at e
        rcases e with e | e
        · exact h.yes e
        · exact ⟨_, hs j (by simp), e⟩
      · rw [Bool.or_eq_false_iff] at e
        rcases hi with hi | rfl
        · exact h.no e.1 i hi
        · exact e.2
    refine (updA_block s _ _ (fun i hi => hs i (by simp [hi])) h1).more fun _ i hi => .inl ?_
    rcases hi with hi | ⟨k, hk, hi⟩
    · exact .inl (.inl hi)
    · rcases List.mem_cons.1 hk with rfl | hk
      · exact .inl (.inr hi.symm)
      · exact .inr ⟨k, hk, hi⟩
end Go.Proofs.Pen

namespace Go.Proofs.Pen
open Go Go.Proofs

section
variable (l : List Tr) (skip : List Int) (r : Bx) (m : Fl) (N : List Nd) (O : List Int)
theorem skipA (st : List Int) (n0 : Nat) (b : Bool) (seen : Nat) (hst : st.length < 900) (hse : seen < 900) (hn : n0 < N.length) (hb : b = true) (hfar : fgt (thr N[n0].1 r).1 (eA b) = true) :
    (eachAny.t0 (m, b, (l, skip, r), (N, O), ((N, O), r, st ++ [(n0 : Int)], ()), eA b, b, (seen : Int), ())).run = some (.normal, m, b, (l, skip, r), (N, O), ((N, O), r, st, ()), eA b, b, ((seen + 1 : Nat) : Int), ()) := by
  obtain ⟨p1, p2, p3, p4, p5, p6⟩ := popF st n0 hst
  have hc : (b && (ford (thr N[n0].1 r).1 (eA b) == some Ordering.gt)) = true := by rw [Bool.and_eq_true]; exact ⟨hb, hfar⟩
  unfold eachAny.t0
  dsimp only
  rw [tr_yes p1, p2, tr_yes p4, tr_opt, p3, Option.bind_some, tr_yes p5, tr_opt, NodeAt N O hn, Option.bind_some, tr_opt, box_Through_eq, Option.bind_some, tr_yes hc, tr_ret, p6, W_succ (by omega)]
theorem leafStepA (st : List Int) (n0 : Nat) (b : Bool) (seen : Nat) (s : List Int) (o : Nat) (R : List Int) (hst : st.length < 900) (hse : seen < 900) (hn : n0 < N.length) (hfar : (b && fgt (thr N[n0].1 r).1 (eA b)) = false) (hsk : skip.length < 1000) (hL : okS l s) (hl : s.length < 900) (hO : O.length < 900) (hd : O.drop o = insS lessI s ++ R) (bx : Bx) (hnd : N[n0] = (bx, 0, 0, (o : Int), ((o + s.length : Nat) : Int))) :
    (eachAny.t0 (m, b, (l, skip, r), (N, O), ((N, O), r, st ++ [(n0 : Int)], ()), eA b, b, (seen : Int), ())).run = some (.normal, m, updA (ask l skip r) m b (insS lessI s), (l, skip, r), (N, O), ((N, O), r, st, ()), eA (updA (ask l skip r) m b (insS lessI s)), updA (ask l skip r) m b (insS lessI s), ((seen + 1 : Nat) : Int), ()) := by
  obtain ⟨p1, p2, p3, p4, p5, p6⟩ := popF st n0 hst
  have hlen : (insS lessI s).length = s.length := (insS_perm _ s).length_eq
  have hc : (b && (ford (thr N[n0].1 r).1 (eA b) == some Ordering.gt)) = false := hfar
  have hl2 := leafA l skip r m N O st b ((seen + 1 : Nat) : Int) N[n0] (insS lessI s) R o hsk (fun i hi => hL i ((insS_perm lessI s).mem_iff.1 hi)) hO hd (by omega) (by rw [hnd, hlen])
  unfold eachAny.t0
  dsimp only
  rw [tr_yes p1, p2, tr_yes p4, tr_opt, p3, Option.bind_some, tr_yes p5, tr_opt, NodeAt N O hn, Option.bind_some, tr_opt, box_Through_eq, Option.bind_some, tr_no hc, tr_opt, p6, W_succ (by omega)]
  refine bind_of (y := _) (by rw [hnd] at hl2 ⊢; exact hl2) ?_
  dsimp only
  rw [tr_yes (by rfl), tr_no (by rfl), tr_ret, List.take_length]
theorem nodeStepA (st : List Int) (n0 a c : Nat) (b : Bool) (seen : Nat) (hst : st.length < 800) (hse : seen < 900) (hn : n0 < N.length) (hfar : (b && fgt (thr N[n0].1 r).1 (eA b)) = false) (bx : Bx) (ha0 : 0 < a) (ha : a < N.length) (hc : c < N.length) (hnd : N[n0] = (bx, (a : Int), (c : Int), 0, 0)) :
    (eachAny.t0 (m, b, (l, skip, r), (N, O), ((N, O), r, st ++ [(n0 : Int)], ()), eA b, b, (seen : Int), ())).run = some (.normal, m, b, (l, skip, r), (N, O), ((N, O), r, pushed (pushed st (c : Int) N[c].1 r) (a : Int) N[a].1 r, ()), eA b, b, ((seen + 1 : Nat) : Int), ()) := by
  obtain ⟨p1, p2, p3, p4, p5, p6⟩ := popF st n0 (by omega)
  have hcc : (b && (ford (thr N[n0].1 r).1 (eA b) == some Ordering.gt)) = false := hfar
  have hl2 : eachAny.l2 (m, b, (l, skip, r), (N, O), ((N, O), r, st, ()), eA b, b, ((seen + 1 : Nat) : Int), N[n0], 0, ()) = some (.exit 2, m, b, (l, skip, r), (N, O), ((N, O), r, st, ()), eA b, b, ((seen + 1 : Nat) : Int), N[n0], 0, ()) := by
    obtain ⟨q, hr⟩ : ∃ r, rounds = r + 1 := ⟨rounds - 1, by have := rounds_gt (n := 1) (by omega); omega⟩
    show (iterT eachAny.t2 rounds _).run = _
    rw [hr, iter_step (e := .exit 2) (by unfold eachAny.t2; dsimp only; rw [tr_no (by rw [hnd]; rfl), tr_ret, List.take_length])]
  unfold eachAny.t0
  dsimp only
  rw [tr_yes p1, p2, tr_yes p4, tr_opt, p3, Option.bind_some, tr_yes p5, tr_opt, NodeAt N O hn, Option.bind_some, tr_opt, box_Through_eq, Option.bind_some, tr_no hcc, tr_opt, p6, W_succ (by omega)]
  refine bind_of (y := _) (by rw [hnd] at hl2 ⊢; exact hl2) ?_
  dsimp only
  rw [tr_yes (by rfl), tr_yes (by simp; omega), tr_opt, NodeAt N O hc, Option.bind_some, tr_no (by rfl), tr_opt, box_Through_eq, Option.bind_some, thr_ok]
  unfold pushed
  cases hR : (thru N[c].1 r).isSome with
  | true =>
    rw [tr_yes rfl, tr_yes (decide_eq_true (room (by omega) (by decide))), tr_opt, NodeAt N O ha, Option.bind_some, tr_no (by rfl), tr_opt, box_Through_eq, Option.bind_some, thr_ok, if_pos rfl, take_all]
    cases hA : (thru N[a].1 r).isSome with
    | true =>
      rw [tr_yes rfl, tr_yes (by unfold most; simp; omega), tr_ret, if_pos rfl, List.take_of_length_le (by simp)]
    | false => rw [tr_no rfl, tr_ret, if_neg (by simp)]
  | false =>
    rw [tr_no rfl, tr_opt, NodeAt N O ha, Option.bind_some, tr_no (by rfl), tr_opt, box_Through_eq, Option.bind_some, thr_ok, if_neg (show ¬ false = true by simp)]
    cases hA : (thru N[a].1 r).isSome with
    | true => rw [tr_yes rfl, tr_yes (decide_eq_true (room (by omega) (by decide))), tr_ret, if_pos rfl, take_all]
    | false => rw [tr_no rfl, tr_ret, if_neg (by simp), List.take_length]
end
end Go.Proofs.Pen

namespace Go.Proofs.Pen
open Go Go.Proofs

section
variable (l : List Tr) (skip : List Int) (r : Bx) (m : Fl) (N : List Nd) (O : List Int)
def SA (b : Bool) (wait : List Int) (seen : Nat) : Fl × Bool × (List Tr × List Int × Bx) × (List Nd × List Int) × ((List Nd × List Int) × Bx × List Int × Unit) × Fl × Bool × Int × Unit := (m, b, (l, skip, r), (N, O), ((N, O), r, wait, ()), eA b, b, (seen : Int), ())
structure WalkedA (s : List Int) (st1 st : List Int) (b : Bool) (seen cnt : Nat) (A : Nat → Prop) : Prop where
  ex : ∃ (k : Nat) (b' : Bool), k ≤ cnt ∧ BlockOf (ask l skip r) m l.length (fun j => A j ∨ ∃ i ∈ s, i.toNat = j) b' ∧ ∀ m', (iterT eachAny.t0 (m' + k) (SA l skip r m N O b st1 seen)).run = (iterT eachAny.t0 m' (SA l skip r m N O b' st (seen + k))).run
theorem childA {s : List Int} {st : List Int} {b : Bool} {seen cnt : Nat} {A : Nat → Prop} (hL : okL l) (hs : okS l s) (hb : BlockOf (ask l skip r) m l.length A b) (n0 : Nat) (h : (thru (bxs l s) r).isSome = true → WalkedA l skip r m N O s (st ++ [(n0 : Int)]) st b seen cnt A) : WalkedA l skip r m N O s (pushed st (n0 : Int) (bxs l s) r) st b seen cnt A := by
  unfold pushed
  cases hp : (thru (bxs l s) r).isSome with
  | true => rw [if_pos rfl]; exact h hp
  | false =>
    rw [if_neg (by simp)]
    refine ⟨0, b, Nat.zero_le _, hb.more (fun _ j hj => ?_), fun m' => rfl⟩
    rcases hj with hj | ⟨i, hi, rfl⟩
    · exact .inl hj
    · refine .inr ?_
      cases e : ask l skip r i.toNat with
      | none => rfl
      | some h =>
        obtain ⟨y, _, h1, _⟩ := below_node hL hs hi e
        rw [h1] at hp; cases hp
theorem walkA (w : Bool) (hL : okL l) (hsk : skip.length < 1000) (hN : N.length < 900) (hO : O.length < 900) : ∀ (d : Nat) (s : List Int) (st : List Int) (n0 o : Nat) (b : Bool) (seen : Nat) (A : Nat → Prop) (rest : List Nd) (rest2 : List Int), okS l s → s.length ≤ d → st.length + s.length < 800 → seen + (pre l w (d + 1) s n0 o).1.length < 900 → N.drop n0 = (pre l w (d + 1) s n0 o).1 ++ rest → O.drop o = (pre l w (d + 1) s n0 o).2 ++ rest2 → BlockOf (ask l skip r) m l.length A b →
    WalkedA l skip r m N O s (st ++ [(n0 : Int)]) st b seen (pre l w (d + 1) s n0 o).1.length A
  | d, s, st, n0, o, b, seen, A, rest, rest2, hs, hd, hst, hse, hdr, hdo, hb => by
    have hsz := pre_size l w d s n0 o hs hd
    obtain ⟨nd, tl, hh1, hh2⟩ := pre_head l w d s n0 o
    have hdr0 := hdr
    rw [hh1] at hdr0
    obtain ⟨hk, hnd, _⟩ := drop_at hdr0
    have hbox : N[n0].1 = bxs l s := by rw [hnd]; exact hh2
    cases hfar : (b && fgt (thr N[n0].1 r).1 (eA b)) with
    | true =>
      rw [Bool.and_eq_true] at hfar
      have hs1 := skipA l skip r m N O st n0 b seen (by omega) (by omega) hk hfar.1 hfar.2
      refine ⟨1, b, hsz.2.1, hb.more (fun e => ?_), fun m' => iter_step hs1⟩
      rw [hfar.1] at e; cases e
    | false =>
      by_cases h4 : s.length ≤ 4
      · have hp : pre l w (d + 1) s n0 o = ([(bxs l s, 0, 0, (o : Int), ((o + s.length : Nat) : Int))], insS lessI s) := by unfold pre; rw [if_pos h4]
        rw [hp] at hdr hdo ⊢
        obtain ⟨_, hnd, _⟩ := drop_at (A := []) hdr
        have hs1 := leafStepA l skip r m N O st n0 b seen s o rest2 (by omega) (by omega) hk hfar hsk hs (by omega) hO hdo _ hnd
        refine ⟨1, _, Nat.le_refl _, (updA_block (insS lessI s) A b (fun i hi => by have := hs i ((insS_perm lessI s).mem_iff.1 hi); omega) hb).more (fun _ j hj => .inl ?_), fun m' => iter_step hs1⟩
        rcases hj with hj | ⟨i, hi, e⟩
        · exact .inl hj
        · exact .inr ⟨i, (insS_perm lessI s).mem_iff.2 hi, e⟩
      · cases d with
        | zero => omega
        | succ d =>
          obtain ⟨p1, p2, p3, p4, p5⟩ := parted_ok w hs (by omega)
          have q3 := List.length_pos_iff.2 p3
          have q4 := List.length_pos_iff.2 p4
          have hpm := parted_perm l w s
          obtain ⟨a1, a2, _, _⟩ := pre_size l w d (parted l w s).1 (n0 + 1) o p1 (by omega)
          obtain ⟨b1, b2, _, _⟩ := pre_size l w d (parted l w s).2 (n0 + 1 + (pre l w (d + 1) (parted l w s).1 (n0 + 1) o).1.length) (o + (pre l w (d + 1) (parted l w s).1 (n0 + 1) o).2.length) p2 (by omega)
          have hp : pre l w (d + 1 + 1) s n0 o = ((bxs l s, ((n0 + 1 : Nat) : Int), ((n0 + 1 + (pre l w (d + 1) (parted l w s).1 (n0 + 1) o).1.length : Nat) : Int), 0, 0) :: ((pre l w (d + 1) (parted l w s).1 (n0 + 1) o).1 ++ (pre l w (d + 1) (parted l w s).2 (n0 + 1 + (pre l w (d + 1) (parted l w s).1 (n0 + 1) o).1.length) (o + (pre l w (d + 1) (parted l w s).1 (n0 + 1) o).2.length)).1), (pre l w (d + 1) (parted l w s).1 (n0 + 1) o).2 ++ (pre l w (d + 1) (parted l w s).2 (n0 + 1 + (pre l w (d + 1) (parted l w s).1 (n0 + 1) o).1.length) (o + (pre l w (d + 1) (parted l w s).1 (n0 + 1) o).2.length)).2) := by
            show (if s.length ≤ 4 then _ else _) = _
            rw [if_neg h4]
          rw [hp] at hdr hdo hse ⊢
          have i1 := fun st b seen A => walkA w hL hsk hN hO d (parted l w s).1 st (n0 + 1) o b seen A ((pre l w (d + 1) (parted l w s).2 (n0 + 1 + (pre l w (d + 1) (parted l w s).1 (n0 + 1) o).1.length) (o + (pre l w (d + 1) (parted l w s).1 (n0 + 1) o).2.length)).1 ++ rest) ((pre l w (d + 1) (parted l w s).2 (n0 + 1 + (pre l w (d + 1) (parted l w s).1 (n0 + 1) o).1.length) (o + (pre l w (d + 1) (parted l w s).1 (n0 + 1) o).2.length)).2 ++ rest2) p1 (by omega)
          have i2 := fun st b seen A => walkA w hL hsk hN hO d (parted l w s).2 st (n0 + 1 + (pre l w (d + 1) (parted l w s).1 (n0 + 1) o).1.length) (o + (pre l w (d + 1) (parted l w s).1 (n0 + 1) o).2.length) b seen A rest rest2 p2 (by omega)
          have hh1 := fun R k (h : N.drop k = _ ++ R) => head_at (l := l) (w := w) (d := d) (s := (parted l w s).1) (n0 := n0 + 1) (o0 := o) h
          have hh2 := fun R k (h : N.drop k = _ ++ R) => head_at (l := l) (w := w) (d := d) (s := (parted l w s).2) (n0 := n0 + 1 + (pre l w (d + 1) (parted l w s).1 (n0 + 1) o).1.length) (o0 := o + (pre l w (d + 1) (parted l w s).1 (n0 + 1) o).2.length) h
          clear hp hsz
          generalize pre l w (d + 1) (parted l w s).2 (n0 + 1 + (pre l w (d + 1) (parted l w s).1 (n0 + 1) o).1.length) (o + (pre l w (d + 1) (parted l w s).1 (n0 + 1) o).2.length) = Y at *
          generalize pre l w (d + 1) (parted l w s).1 (n0 + 1) o = X at *
          obtain ⟨_, hnd, hdr1⟩ := drop_at (A := X.1 ++ Y.1) hdr
          rw [List.append_assoc] at hdr1 hdo
          have hdr2 := drop_more hdr1
          have hdo2 := drop_more hdo
          have hnl := drop_len hdr2 (by omega)
          have hol := drop_len hdo (by omega)
          obtain ⟨n1, g1, g2⟩ := hh1 _ _ hdr1
          obtain ⟨n2, g3, g4⟩ := hh2 _ _ hdr2
          rw [lget_nat N (by omega)] at g1 g3
          have g1 := Option.some.inj g1
          have g3 := Option.some.inj g3
          dsimp only [List.length_cons] at hse ⊢
          simp only [List.length_cons, List.length_append] at hse ⊢
          have hs1 := nodeStepA l skip r m N O st n0 (n0 + 1) (n0 + 1 + X.1.length) b seen (by omega) (by omega) hk hfar _ (by omega) (by omega) (by omega) hnd
          rw [g1, g3, g2, g4] at hs1
          have hstl : (pushed st ((n0 + 1 + X.1.length : Nat) : Int) (bxs l (parted l w s).2) r).length ≤ st.length + 1 := by unfold pushed; split <;> simp
          obtain ⟨k1, b1', w1, w2, w3⟩ := (childA l skip r m N O (st := pushed st ((n0 + 1 + X.1.length : Nat) : Int) (bxs l (parted l w s).2) r) (seen := seen + 1) (cnt := X.1.length) hL p1 hb (n0 + 1) fun _ => i1 _ b (seen + 1) A (by omega) (by omega) hdr1 hdo hb).ex
          obtain ⟨k2, b2', v1, v2, v3⟩ := (childA l skip r m N O (st := st) (seen := seen + 1 + k1) (cnt := Y.1.length) hL p2 w2 (n0 + 1 + X.1.length) fun _ => i2 _ b1' (seen + 1 + k1) _ (by omega) (by omega) hdr2 hdo2 w2).ex
          refine ⟨k2 + k1 + 1, b2', by omega, v2.more (fun _ j hj => .inl ?_), fun m' => ?_⟩
          · rcases hj with hj | ⟨i, hi, e⟩
            · exact .inl (.inl hj)
            · rcases List.mem_append.1 (hpm.mem_iff.2 hi) with h | h
              · exact .inl (.inr ⟨i, h, e⟩)
              · exact .inr ⟨i, h, e⟩
          · have e1 : m' + (k2 + k1 + 1) = m' + k2 + k1 + 1 := by omega
            have e2 : seen + (k2 + k1 + 1) = seen + 1 + k1 + k2 := by omega
            rw [e1, e2]
            exact (iter_step hs1).trans ((w3 (m' + k2)).trans (v3 m'))
end
end Go.Proofs.Pen

namespace Go.Proofs.Pen
open Go Go.Proofs

theorem exitA (l : List Tr) (skip : List Int) (r : Bx) (m : Fl) (N : List Nd) (O : List Int) (b : Bool) (seen : Nat) (q : Nat) : (iterT eachAny.t0 (q + 1) (SA l skip r m N O b [] seen)).run = some (.exit 0, SA l skip r m N O b [] seen) := by
  rw [iter_step (e := .exit 0) (by unfold eachAny.t0 SA; rw [tr_no (by rfl), tr_ret])]
  rfl
theorem block_none (g : Nat → Option V3) (m : Fl) (n : Nat) : BlockOf g m n (fun _ => False) false := ⟨nofun, fun _ _ h => h.elim⟩
theorem Any_run (l : List Tr) (w : Bool) (skip : List Int) (r : Bx) (m : Fl) (hL : okL l) (hl : l.length ≤ 200) (hsk : skip.length < 1000) {N : List Nd} {O : List Int} (hT : treeOf l w = (N, O)) : ∃ x, eachAny.l0 (SA l skip r m N O false (pushed [] 0 (bxs l (nums l.length)) r) 0) = some (.exit 0, x) ∧ x.2.1 = anyOf l skip r m := by
  obtain ⟨hp, hk, hbox⟩ := tree_at l w (by omega) hT
  have hsz := pre_size l w 999 (nums l.length) 0 0 (nums_ok l) (by rw [nums_len]; omega)
  have hwk := fun a b c => walkA l skip r m N O w hL hsk a b 999 (nums l.length) [] 0 0 false 0 (fun _ => False) [] [] (nums_ok l) (by rw [nums_len]; omega) (by rw [nums_len]; simp; omega) c (by rw [hp, List.append_nil]; rfl) (by rw [hp, List.append_nil]; rfl) (block_none _ _ _)
  rw [hp] at hsz hwk
  rw [nums_len] at hsz
  have hwk := hwk (by have := hsz.2.2.1; dsimp only at this; omega) (by have := hsz.1; dsimp only at this; omega) (by have := hsz.2.2.1; dsimp only at this ⊢; omega)
  obtain ⟨k, b', k1, k2, k3⟩ := (childA l skip r m N O (st := []) (seen := 0) hL (nums_ok l) (block_none _ _ _) 0 fun _ => hwk).ex
  obtain ⟨q, hr⟩ : ∃ q, rounds = q + 1 + k := ⟨rounds - 1 - k, by have := rounds_gt (n := 5000) (by omega); have := hsz.2.2.1; dsimp only at this k1; omega⟩
  refine ⟨SA l skip r m N O b' [] (0 + k), ?_, ?_⟩
  · show (iterT eachAny.t0 rounds _).run = _
    rw [hr]
    exact (k3 (q + 1)).trans (exitA ..)
  · show b' = _
    unfold anyOf
    cases hb : b' with
    | true =>
      obtain ⟨j, hj, e⟩ := k2.yes hb
      symm
      exact List.any_eq_true.2 ⟨j, List.mem_range.2 hj, e⟩
    | false =>
      symm
      refine List.any_eq_false.2 fun j hj => ?_
      rw [k2.no hb j (.inr (mem_nums.2 (List.mem_range.1 hj)))]
      simp
theorem hit_Any_eq (l : List Tr) (w : Bool) (skip : List Int) (r : Bx) (m : Fl) (hL : okL l) (hl : l.length ≤ 200) (hsk : skip.length < 1000) : hit_Any (treeOf l w, l, r, m, skip) = some (anyOf l skip r m) := by
  generalize hT : treeOf l w = T
  obtain ⟨N, O⟩ := T
  obtain ⟨hp, hk, hbox⟩ := tree_at l w (by omega) hT
  have hrun := Any_run l w skip r m hL hl hsk hT
  unfold hit_Any hit_Any.t
  dsimp only
  rw [tr_opt, show bvh_Tree_Node ((N, O), 0) = some (N[0], true) from NodeAt N O hk, Option.bind_some, tr_no (by rfl), tr_opt, box_Through_eq, Option.bind_some, thr_ok, hbox]
  unfold pushed at hrun
  obtain ⟨x, h1, h2⟩ := hrun
  cases hc : (thru (bxs l (nums l.length)) r).isSome with
  | true =>
    rw [hc, if_pos rfl] at h1
    rw [tr_yes rfl, tr_yes (by decide), tr_opt]
    refine bind_of h1 ?_
    rw [tr_yes (by rfl), tr_ret]
    exact congrArg some h2
  | false =>
    rw [hc, if_neg (by simp)] at h1
    rw [tr_no rfl, tr_opt]
    refine bind_of h1 ?_
    rw [tr_yes (by rfl), tr_ret]
    exact congrArg some h2
end Go.Proofs.Pen

namespace Go.Proofs.Pen
open Go Go.Proofs
noncomputable def eachVisits.deeps : Deeps := { D := [126, 127, 75], C := [], frz := false, S := fun _ _ => noS }
theorem eachVisits.deepsOk : LoopsOK Tryz.prog eachVisits.deeps.S := (loops_none _)
def eachVisits.L2 : List (Nat × Lay) := [(9000, .bdead 0), (0, .val (.ptr TTree)), (2, .val (.clo 75 .unit)), (7, .obx [.dat (.ptr TTree), .dat TBox, .own TI]), (8, .val .flt), (9, .val .bool), (10, .val TI), (11, .box TNode), (13, .val TI)]
noncomputable def eachVisits.t2 (x : ((List (((Option Nat × Option Nat × Option Nat) × Option Nat × Option Nat × Option Nat) × Int × Int × Int × Int)) × List (Int)) × Unit × (((List (((Option Nat × Option Nat × Option Nat) × Option Nat × Option Nat × Option Nat) × Int × Int × Int × Int)) × List (Int)) × ((Option Nat × Option Nat × Option Nat) × Option Nat × Option Nat × Option Nat) × List Int × Unit) × (Option Nat) × Bool × Int × (((Option Nat × Option Nat × Option Nat) × Option Nat × Option Nat × Option Nat) × Int × Int × Int × Int) × Int × Unit) : T (Ex × ((List (((Option Nat × Option Nat × Option Nat) × Option Nat × Option Nat × Option Nat) × Int × Int × Int × Int)) × List (Int)) × Unit × (((List (((Option Nat × Option Nat × Option Nat) × Option Nat × Option Nat × Option Nat) × Int × Int × Int × Int)) × List (Int)) × ((Option Nat × Option Nat × Option Nat) × Option Nat × Option Nat × Option Nat) × List Int × Unit) × (Option Nat) × Bool × Int × (((Option Nat × Option Nat × Option Nat) × Option Nat × Option Nat × Option Nat) × Int × Int × Int × Int) × Int × Unit) := T.ite (decide (x.2.2.2.2.2.2.2.1 < x.2.2.2.2.2.2.1.2.2.2.2)) (T.opt (bvh_Tree_Tri (x.1, x.2.2.2.2.2.2.2.1)) fun y => T.ret (Ex.normal, x.1, (), (x.2.2.1.1, x.2.2.1.2.1, List.take x.2.2.1.2.2.1.length x.2.2.1.2.2.1, ()), x.2.2.2.1, x.2.2.2.2.1, x.2.2.2.2.2.1, x.2.2.2.2.2.2.1, W (x.2.2.2.2.2.2.2.1 + (1 : Int)), ())) (T.ret (Ex.exit (2 : Nat), x.1, (), (x.2.2.1.1, x.2.2.1.2.1, List.take x.2.2.1.2.2.1.length x.2.2.1.2.2.1, ()), x.2.2.2.1, x.2.2.2.2.1, x.2.2.2.2.2.1, x.2.2.2.2.2.2.1, x.2.2.2.2.2.2.2.1, ()))
noncomputable def eachVisits.l2 (x : ((List (((Option Nat × Option Nat × Option Nat) × Option Nat × Option Nat × Option Nat) × Int × Int × Int × Int)) × List (Int)) × Unit × (((List (((Option Nat × Option Nat × Option Nat) × Option Nat × Option Nat × Option Nat) × Int × Int × Int × Int)) × List (Int)) × ((Option Nat × Option Nat × Option Nat) × Option Nat × Option Nat × Option Nat) × List Int × Unit) × (Option Nat) × Bool × Int × (((Option Nat × Option Nat × Option Nat) × Option Nat × Option Nat × Option Nat) × Int × Int × Int × Int) × Int × Unit) : Option (Ex × ((List (((Option Nat × Option Nat × Option Nat) × Option Nat × Option Nat × Option Nat) × Int × Int × Int × Int)) × List (Int)) × Unit × (((List (((Option Nat × Option Nat × Option Nat) × Option Nat × Option Nat × Option Nat) × Int × Int × Int × Int)) × List (Int)) × ((Option Nat × Option Nat × Option Nat) × Option Nat × Option Nat × Option Nat) × List Int × Unit) × (Option Nat) × Bool × Int × (((Option Nat × Option Nat × Option Nat) × Option Nat × Option Nat × Option Nat) × Int × Int × Int × Int) × Int × Unit) := (iterT eachVisits.t2 rounds x).run
theorem eachVisits.k2 : bodies 2 (lp Tryz.f67 [0]) = [.loop (loopIn 2 (lp Tryz.f67 [0]))] ∧ WP Tryz.prog 1 (.block 2 (.loop (loopIn 2 (lp Tryz.f67 [0])))) (loopS eachVisits.L2 71 2 [.exit 2] eachVisits.l2) :=
  loop_treeN 1 (L := eachVisits.L2) (F := (dp Tryz.prog (ext (ext (ext (ext (ext (ext (ext Xs 51 bvh_Tree_Tri.q) 13 bvh_Tree_Node.q) 176 box_Through.q) 69 tri_Better.q) 123 hit_asker_1.q) 65 hit_none.q) 212 box_Through_1.q) eachVisits.deeps 100 8)) (D := (inL eachVisits.deeps.D)) (tab := []) (t := eachVisits.t2) mixed (dp_ok mixed (quiet_ext (quiet_ext (quiet_ext (quiet_ext (quiet_ext (quiet_ext (quiet_ext Xok bvh_Tree_Tri.ok) bvh_Tree_Node.ok) box_Through.ok) tri_Better.ok) hit_asker_1.ok) hit_none.ok) box_Through_1.ok) eachVisits.deepsOk 100 8).1 (dp_ok mixed (quiet_ext (quiet_ext (quiet_ext (quiet_ext (quiet_ext (quiet_ext (quiet_ext Xok bvh_Tree_Tri.ok) bvh_Tree_Node.ok) box_Through.ok) tri_Better.ok) hit_asker_1.ok) hit_none.ok) box_Through_1.ok) eachVisits.deepsOk 100 8).2 (fun _ => rfl) (by kernel_rfl) (by kernel_rfl) trivial (fun x => by kernel_rfl)
def eachVisits.L0 : List (Nat × Lay) := [(9000, .bdead 0), (0, .val (.ptr TTree)), (2, .val (.clo 75 .unit)), (7, .obx [.dat (.ptr TTree), .dat TBox, .own TI]), (8, .val .flt), (9, .val .bool), (10, .val TI)]
noncomputable def eachVisits.t0 (x : ((List (((Option Nat × Option Nat × Option Nat) × Option Nat × Option Nat × Option Nat) × Int × Int × Int × Int)) × List (Int)) × Unit × (((List (((Option Nat × Option Nat × Option Nat) × Option Nat × Option Nat × Option Nat) × Int × Int × Int × Int)) × List (Int)) × ((Option Nat × Option Nat × Option Nat) × Option Nat × Option Nat × Option Nat) × List Int × Unit) × (Option Nat) × Bool × Int × Unit) : T (Ex × ((List (((Option Nat × Option Nat × Option Nat) × Option Nat × Option Nat × Option Nat) × Int × Int × Int × Int)) × List (Int)) × Unit × (((List (((Option Nat × Option Nat × Option Nat) × Option Nat × Option Nat × Option Nat) × Int × Int × Int × Int)) × List (Int)) × ((Option Nat × Option Nat × Option Nat) × Option Nat × Option Nat × Option Nat) × List Int × Unit) × (Option Nat) × Bool × Int × Unit) := T.ite (decide ((↑x.2.2.1.2.2.1.length : Int) > (0 : Int))) (T.ite (decide ((0 : Int) ≤ W ((↑x.2.2.1.2.2.1.length : Int) - (1 : Int))) && decide (W ((↑x.2.2.1.2.2.1.length : Int) - (1 : Int)) < (↑x.2.2.1.2.2.1.length : Int))) (T.opt x.2.2.1.2.2.1[(0 : Nat) + (W ((↑x.2.2.1.2.2.1.length : Int) - (1 : Int))).toNat]? fun y => T.ite (decide ((0 : Int) ≤ (0 : Int)) && decide ((0 : Int) ≤ W ((↑x.2.2.1.2.2.1.length : Int) - (1 : Int))) && decide (W ((↑x.2.2.1.2.2.1.length : Int) - (1 : Int)) ≤ (↑x.2.2.1.2.2.1.length : Int))) (T.opt (bvh_Tree_Node (x.2.2.1.1, y)) fun y => T.opt (box_Through (y.1.1, x.2.2.1.2.1)) fun y_1 => T.ite (x.2.2.2.2.1 && ford y_1.fst x.2.2.2.1 == some Ordering.gt) (T.ret (Ex.normal, x.1, (), (x.2.2.1.1, x.2.2.1.2.1, List.take ((W ((↑x.2.2.1.2.2.1.length : Int) - (1 : Int))).toNat - Int.toNat (0 : Int)) x.2.2.1.2.2.1, ()), x.2.2.2.1, x.2.2.2.2.1, W (x.2.2.2.2.2.1 + (1 : Int)), ())) (T.opt (eachVisits.l2 (x.1, (), (x.2.2.1.1, x.2.2.1.2.1, List.take ((W ((↑x.2.2.1.2.2.1.length : Int) - (1 : Int))).toNat - Int.toNat (0 : Int)) x.2.2.1.2.2.1, ()), x.2.2.2.1, x.2.2.2.2.1, W (x.2.2.2.2.2.1 + (1 : Int)), y.1, y.1.2.2.2.1, ())) fun y => T.ite (exEq y.1 (Ex.exit (2 : Nat))) (T.ite (decide (y.2.2.2.2.2.2.2.1.2.1 > (0 : Int))) (T.opt (bvh_Tree_Node (y.2.2.2.1.1, y.2.2.2.2.2.2.2.1.2.2.1)) fun y_2 => T.ite (!y_2.snd) (T.opt (bvh_Tree_Node (y.2.2.2.1.1, y.2.2.2.2.2.2.2.1.2.1)) fun y_3 => T.ite (!y_3.snd) (T.ret (Ex.normal, y.2.1, (), (y.2.2.2.1.1, y.2.2.2.1.2.1, List.take y.2.2.2.1.2.2.1.length y.2.2.2.1.2.2.1, ()), y.2.2.2.2.1, y.2.2.2.2.2.1, y.2.2.2.2.2.2.1, ())) (T.opt (box_Through (y_3.fst.fst, y.2.2.2.1.2.1)) fun y_4 => T.ite y_4.snd.snd (T.ite (decide ((y.2.2.2.1.2.2.1.length + (1 : Nat)) * nat_lit 8 ≤ most)) (T.ret (Ex.normal, y.2.1, (), (y.2.2.2.1.1, y.2.2.2.1.2.1, List.take (y.2.2.2.1.2.2.1.length + (1 : Nat)) (List.take y.2.2.2.1.2.2.1.length y.2.2.2.1.2.2.1 ++ [y.2.2.2.2.2.2.2.1.2.1]), ()), y.2.2.2.2.1, y.2.2.2.2.2.1, y.2.2.2.2.2.2.1, ())) T.fail) (T.ret (Ex.normal, y.2.1, (), (y.2.2.2.1.1, y.2.2.2.1.2.1, List.take y.2.2.2.1.2.2.1.length y.2.2.2.1.2.2.1, ()), y.2.2.2.2.1, y.2.2.2.2.2.1, y.2.2.2.2.2.2.1, ())))) (T.opt (box_Through (y_2.fst.fst, y.2.2.2.1.2.1)) fun y_3 => T.ite y_3.snd.snd (T.ite (decide ((y.2.2.2.1.2.2.1.length + (1 : Nat)) * nat_lit 8 ≤ most)) (T.opt (bvh_Tree_Node (y.2.2.2.1.1, y.2.2.2.2.2.2.2.1.2.1)) fun y_4 => T.ite (!y_4.snd) (T.ret (Ex.normal, y.2.1, (), (y.2.2.2.1.1, y.2.2.2.1.2.1, List.take (y.2.2.2.1.2.2.1.length + (1 : Nat)) (List.take y.2.2.2.1.2.2.1.length y.2.2.2.1.2.2.1 ++ [y.2.2.2.2.2.2.2.1.2.2.1]), ()), y.2.2.2.2.1, y.2.2.2.2.2.1, y.2.2.2.2.2.2.1, ())) (T.opt (box_Through (y_4.fst.fst, y.2.2.2.1.2.1)) fun y_5 => T.ite y_5.snd.snd (T.ite (decide ((y.2.2.2.1.2.2.1.length + (1 : Nat) + (1 : Nat)) * nat_lit 8 ≤ most)) (T.ret (Ex.normal, y.2.1, (), (y.2.2.2.1.1, y.2.2.2.1.2.1, List.take (y.2.2.2.1.2.2.1.length + (1 : Nat) + (1 : Nat)) (List.take (y.2.2.2.1.2.2.1.length + (1 : Nat)) (List.take y.2.2.2.1.2.2.1.length y.2.2.2.1.2.2.1 ++ [y.2.2.2.2.2.2.2.1.2.2.1]) ++ [y.2.2.2.2.2.2.2.1.2.1]), ()), y.2.2.2.2.1, y.2.2.2.2.2.1, y.2.2.2.2.2.2.1, ())) T.fail) (T.ret (Ex.normal, y.2.1, (), (y.2.2.2.1.1, y.2.2.2.1.2.1, List.take (y.2.2.2.1.2.2.1.length + (1 : Nat)) (List.take y.2.2.2.1.2.2.1.length y.2.2.2.1.2.2.1 ++ [y.2.2.2.2.2.2.2.1.2.2.1]), ()), y.2.2.2.2.1, y.2.2.2.2.2.1, y.2.2.2.2.2.2.1, ())))) T.fail) (T.opt (bvh_Tree_Node (y.2.2.2.1.1, y.2.2.2.2.2.2.2.1.2.1)) fun y_4 => T.ite (!y_4.snd) (T.ret (Ex.normal, y.2.1, (), (y.2.2.2.1.1, y.2.2.2.1.2.1, List.take y.2.2.2.1.2.2.1.length y.2.2.2.1.2.2.1, ()), y.2.2.2.2.1, y.2.2.2.2.2.1, y.2.2.2.2.2.2.1, ())) (T.opt (box_Through (y_4.fst.fst, y.2.2.2.1.2.1)) fun y_5 => T.ite y_5.snd.snd (T.ite (decide ((y.2.2.2.1.2.2.1.length + (1 : Nat)) * nat_lit 8 ≤ most)) (T.ret (Ex.normal, y.2.1, (), (y.2.2.2.1.1, y.2.2.2.1.2.1, List.take (y.2.2.2.1.2.2.1.length + (1 : Nat)) (List.take y.2.2.2.1.2.2.1.length y.2.2.2.1.2.2.1 ++ [y.2.2.2.2.2.2.2.1.2.1]), ()), y.2.2.2.2.1, y.2.2.2.2.2.1, y.2.2.2.2.2.2.1, ())) T.fail) (T.ret (Ex.normal, y.2.1, (), (y.2.2.2.1.1, y.2.2.2.1.2.1, List.take y.2.2.2.1.2.2.1.length y.2.2.2.1.2.2.1, ()), y.2.2.2.2.1, y.2.2.2.2.2.1, y.2.2.2.2.2.2.1, ())))))) (T.ret (Ex.normal, y.2.1, (), (y.2.2.2.1.1, y.2.2.2.1.2.1, List.take y.2.2.2.1.2.2.1.length y.2.2.2.1.2.2.1, ()), y.2.2.2.2.1, y.2.2.2.2.2.1, y.2.2.2.2.2.2.1, ()))) T.fail)) T.fail) T.fail) (T.ret (Ex.exit (0 : Nat), x.1, (), (x.2.2.1.1, x.2.2.1.2.1, List.take x.2.2.1.2.2.1.length x.2.2.1.2.2.1, ()), x.2.2.2.1, x.2.2.2.2.1, x.2.2.2.2.2.1, ()))
noncomputable def eachVisits.l0 (x : ((List (((Option Nat × Option Nat × Option Nat) × Option Nat × Option Nat × Option Nat) × Int × Int × Int × Int)) × List (Int)) × Unit × (((List (((Option Nat × Option Nat × Option Nat) × Option Nat × Option Nat × Option Nat) × Int × Int × Int × Int)) × List (Int)) × ((Option Nat × Option Nat × Option Nat) × Option Nat × Option Nat × Option Nat) × List Int × Unit) × (Option Nat) × Bool × Int × Unit) : Option (Ex × ((List (((Option Nat × Option Nat × Option Nat) × Option Nat × Option Nat × Option Nat) × Int × Int × Int × Int)) × List (Int)) × Unit × (((List (((Option Nat × Option Nat × Option Nat) × Option Nat × Option Nat × Option Nat) × Int × Int × Int × Int)) × List (Int)) × ((Option Nat × Option Nat × Option Nat) × Option Nat × Option Nat × Option Nat) × List Int × Unit) × (Option Nat) × Bool × Int × Unit) := (iterT eachVisits.t0 rounds x).run
theorem eachVisits.k0 : bodies 0 (lp Tryz.f67 []) = [.loop (loopIn 0 (lp Tryz.f67 []))] ∧ WP Tryz.prog 1 (.block 0 (.loop (loopIn 0 (lp Tryz.f67 [])))) (loopS eachVisits.L0 71 0 [.exit 0] eachVisits.l0) :=
  loop_treeN 1 (L := eachVisits.L0) (F := (dp Tryz.prog (ext (ext (ext (ext (ext (ext (ext Xs 51 bvh_Tree_Tri.q) 13 bvh_Tree_Node.q) 176 box_Through.q) 69 tri_Better.q) 123 hit_asker_1.q) 65 hit_none.q) 212 box_Through_1.q) eachVisits.deeps 100 8)) (D := (inL eachVisits.deeps.D)) (tab := [(2, loopS eachVisits.L2 71 2 [.exit 2] eachVisits.l2)]) (t := eachVisits.t0) mixed (dp_ok mixed (quiet_ext (quiet_ext (quiet_ext (quiet_ext (quiet_ext (quiet_ext (quiet_ext Xok bvh_Tree_Tri.ok) bvh_Tree_Node.ok) box_Through.ok) tri_Better.ok) hit_asker_1.ok) hit_none.ok) box_Through_1.ok) eachVisits.deepsOk 100 8).1 (dp_ok mixed (quiet_ext (quiet_ext (quiet_ext (quiet_ext (quiet_ext (quiet_ext (quiet_ext Xok bvh_Tree_Tri.ok) bvh_Tree_Node.ok) box_Through.ok) tri_Better.ok) hit_asker_1.ok) hit_none.ok) box_Through_1.ok) eachVisits.deepsOk 100 8).2 (fun _ => rfl) (by kernel_rfl) (by kernel_rfl) ⟨eachVisits.k2, trivial⟩ (fun x => by kernel_rfl)
noncomputable def eachVisits.S : List (Nat × (St → T (Ex × St))) := [(0, loopS eachVisits.L0 71 0 [.exit 0] eachVisits.l0)]
theorem eachVisits.tab : TabOK Tryz.prog 1 (codeOf Tryz.f67) eachVisits.S := ⟨eachVisits.k0, trivial⟩
end Go.Proofs.Pen

namespace Go.Proofs.Pen
open Go Go.Proofs
noncomputable def hit_Visits.deeps : Deeps := { D := [67, 126, 127, 75], C := [], frz := false, S := extSn (fun _ _ => noS) 67 1 (tabS eachVisits.S) }
theorem hit_Visits.deepsOk : LoopsOK Tryz.prog hit_Visits.deeps.S := (loops_extn (loops_none _) Tryz.func67 eachVisits.tab)
noncomputable def hit_Visits.t (x : ((List (((Option Nat × Option Nat × Option Nat) × Option Nat × Option Nat × Option Nat) × Int × Int × Int × Int)) × List (Int)) × ((Option Nat × Option Nat × Option Nat) × Option Nat × Option Nat × Option Nat)) : T (Int) := T.opt (bvh_Tree_Node (x.1, (0 : Int))) fun y => T.ite (!y.2) (T.opt (eachVisits.l0 (x.1, (), (x.1, x.2, [], ()), some (0 : Nat), false, (0 : Int), ())) fun y => T.ite (exEq y.1 (Ex.exit (0 : Nat))) (T.ret y.2.2.2.2.2.2.1) T.fail) (T.opt (box_Through (y.1.1, x.2)) fun y => T.ite y.2.2 (T.ite (decide ((1 : Nat) * nat_lit 8 ≤ most)) (T.opt (eachVisits.l0 (x.1, (), (x.1, x.2, [(0 : Int)], ()), some (0 : Nat), false, (0 : Int), ())) fun y => T.ite (exEq y.1 (Ex.exit (0 : Nat))) (T.ret y.2.2.2.2.2.2.1) T.fail) T.fail) (T.opt (eachVisits.l0 (x.1, (), (x.1, x.2, [], ()), some (0 : Nat), false, (0 : Int), ())) fun y => T.ite (exEq y.1 (Ex.exit (0 : Nat))) (T.ret y.2.2.2.2.2.2.1) T.fail))
noncomputable def hit_Visits (x : ((List (((Option Nat × Option Nat × Option Nat) × Option Nat × Option Nat × Option Nat) × Int × Int × Int × Int)) × List (Int)) × ((Option Nat × Option Nat × Option Nat) × Option Nat × Option Nat × Option Nat)) : Option (Int) := (hit_Visits.t x).run
noncomputable def hit_Visits.q : List AV → T AV := entry [(.ptr TTree), TBox] (outR [TI]) fun x => .opt (hit_Visits x) .ret
theorem hit_Visits.ok : FnOK Tryz.prog 28 hit_Visits.q :=
  entry_call (ps := [(.ptr TTree), TBox]) (rs := [TI]) (F := (dp Tryz.prog (ext (ext (ext (ext (ext (ext (ext Xs 13 bvh_Tree_Node.q) 51 bvh_Tree_Tri.q) 176 box_Through.q) 69 tri_Better.q) 123 hit_asker_1.q) 65 hit_none.q) 212 box_Through_1.q) hit_Visits.deeps 100 8)) (D := (inL hit_Visits.deeps.D)) (S := tabS []) (t := hit_Visits.t) mixed (dp_ok mixed (quiet_ext (quiet_ext (quiet_ext (quiet_ext (quiet_ext (quiet_ext (quiet_ext Xok bvh_Tree_Node.ok) bvh_Tree_Tri.ok) box_Through.ok) tri_Better.ok) hit_asker_1.ok) hit_none.ok) box_Through_1.ok) hit_Visits.deepsOk 100 8).1 (dp_ok mixed (quiet_ext (quiet_ext (quiet_ext (quiet_ext (quiet_ext (quiet_ext (quiet_ext Xok bvh_Tree_Node.ok) bvh_Tree_Tri.ok) box_Through.ok) tri_Better.ok) hit_asker_1.ok) hit_none.ok) box_Through_1.ok) hit_Visits.deepsOk 100 8).2 Tryz.func28 (by kernel_rfl) (sok_fn trivial) (by kernel_rfl) (fun x => by kernel_rfl)
end Go.Proofs.Pen

namespace Go.Proofs.Pen
open Go Go.Proofs
set_option maxRecDepth 100000
noncomputable def law13_awake.tabl : DTab := (tbExt tb 8 (freshD bvh_New.q))
theorem law13_awake.tablOk : TBOK Tryz.prog law13_awake.tabl := (tb_ext tbOk (fresh_deep bvh_New.okF))
noncomputable def law13_awake.q : List AV → T AV := entry [] (outR [.bool]) fun _ => .ret (true : dens [.bool])
theorem law13_awake.ok : FnOK Tryz.prog 24 law13_awake.q := peT_entry mixed (quiet_ext (quiet_ext (quiet_ext (quiet_ext (quiet_ext Xok hit_Scan.ok) hit_First.ok) hit_Any.ok) hit_Visits.ok) bvh_New.ok) [30, 25, 26, 28] law13_awake.tablOk 300 40 Tryz.func24 (by kernel_rfl) (by kernel_rfl)
end Go.Proofs.Pen

namespace Go.Proofs.Pen
open Go Go.Proofs
noncomputable def law13_HitTrees.t (x : ((List ((Option Nat × Option Nat × Option Nat) × (Option Nat × Option Nat × Option Nat) × Option Nat × Option Nat × Option Nat)) × ((Option Nat × Option Nat × Option Nat) × Option Nat × Option Nat × Option Nat) × Option Nat × List (Int))) : T (Bool) := T.opt (law13_few (x.1, (100 : Int))) fun y => T.opt (law13_skips x.2.2.2) fun y_1 => T.opt (bvh_New (y, true)) fun y_2 => T.ite y_2.fst.isNone (T.opt (bvh_New (y, false)) fun y_3 => T.ite y_3.fst.isNone (T.ite (y_2.snd != (0 : Int) || y_3.snd != (0 : Int)) (T.ret false) (T.opt (ref13_First (y, x.2.1, y_1)) fun y_4 => T.opt (ref13_Any (y, x.2.1, x.2.2.1, y_1)) fun y => T.ite true T.fail (T.ret false))) (T.opt y_3.fst fun y_4 => T.ite (y_2.snd != (0 : Int) || y_3.snd != (0 : Int)) (T.ret false) (T.opt (ref13_First (y, x.2.1, y_1)) fun y_5 => T.opt (ref13_Any (y, x.2.1, x.2.2.1, y_1)) fun y => T.ite true T.fail (T.ret false)))) (T.opt y_2.fst fun y_3 => T.opt (bvh_New (y, false)) fun y_4 => T.ite y_4.fst.isNone (T.ite (y_2.snd != (0 : Int) || y_4.snd != (0 : Int)) (T.ret false) (T.opt (ref13_First (y, x.2.1, y_1)) fun y_5 => T.opt (ref13_Any (y, x.2.1, x.2.2.1, y_1)) fun y_6 => T.ite true (T.opt (hit_First (y_3, y, x.2.1, y_1)) fun y => T.ite (y.1 == y_5.fst && (ford y.2.1 y_5.snd.fst == some Ordering.eq && (ford y.2.2.1 y_5.snd.snd.fst == some Ordering.eq && ford y.2.2.2 y_5.snd.snd.snd == some Ordering.eq))) T.fail (T.ret false)) (T.ret false))) (T.opt y_4.fst fun y_5 => T.ite (y_2.snd != (0 : Int) || y_4.snd != (0 : Int)) (T.ret false) (T.opt (ref13_First (y, x.2.1, y_1)) fun y_6 => T.opt (ref13_Any (y, x.2.1, x.2.2.1, y_1)) fun y_7 => T.ite true (T.opt (hit_First (y_3, y, x.2.1, y_1)) fun y_8 => T.ite (y_8.fst == y_6.fst && (ford y_8.snd.fst y_6.snd.fst == some Ordering.eq && (ford y_8.snd.snd.fst y_6.snd.snd.fst == some Ordering.eq && ford y_8.snd.snd.snd y_6.snd.snd.snd == some Ordering.eq))) (T.opt (hit_First (y_5, y, x.2.1, y_1)) fun y_9 => T.ite (y_9.fst == y_6.fst && (ford y_9.snd.fst y_6.snd.fst == some Ordering.eq && (ford y_9.snd.snd.fst y_6.snd.snd.fst == some Ordering.eq && ford y_9.snd.snd.snd y_6.snd.snd.snd == some Ordering.eq))) (T.opt (hit_Any (y_3, y, x.2.1, x.2.2.1, y_1)) fun y_10 => T.ite (y_10 == y_7) (T.opt (hit_Any (y_5, y, x.2.1, x.2.2.1, y_1)) fun y => T.ret (y == y_7)) (T.ret false)) (T.ret false)) (T.ret false)) (T.ret false))))
noncomputable def law13_HitTrees (x : ((List ((Option Nat × Option Nat × Option Nat) × (Option Nat × Option Nat × Option Nat) × Option Nat × Option Nat × Option Nat)) × ((Option Nat × Option Nat × Option Nat) × Option Nat × Option Nat × Option Nat) × Option Nat × List (Int))) : Option (Bool) := (law13_HitTrees.t x).run
noncomputable def law13_HitTrees.q : List AV → T AV := entry [(.st (.pair (.sl TTri) (.pair TBox (.pair .flt (.sl TI)))))] (outR [.bool]) fun x => .opt (law13_HitTrees x) .ret
theorem law13_HitTrees.ok : FnOK Tryz.prog 4 law13_HitTrees.q :=
  entry_call (ps := [(.st (.pair (.sl TTri) (.pair TBox (.pair .flt (.sl TI)))))]) (rs := [.bool]) (F := ({ quiet := (ext (ext (ext (ext (ext (ext (ext (ext (ext (ext (ext (ext (ext (ext Xs 20 law13_few.q) 21 law13_skips.q) 8 bvh_New.q) 22 ref13_First.q) 23 ref13_Any.q) 24 law13_awake.q) 25 hit_First.q) 26 hit_Any.q) 123 hit_asker_1.q) 151 vec_Sub_1.q) 163 vec_Add_1.q) 179 tri_Meet_1.q) 192 vec_Mul_1.q) 212 box_Through_1.q), deep := noDeep } : Fns)) (D := D0) (S := tabS []) (t := law13_HitTrees.t) mixed (quiet_ext (quiet_ext (quiet_ext (quiet_ext (quiet_ext (quiet_ext (quiet_ext (quiet_ext (quiet_ext (quiet_ext (quiet_ext (quiet_ext (quiet_ext (quiet_ext Xok law13_few.ok) law13_skips.ok) bvh_New.ok) ref13_First.ok) ref13_Any.ok) law13_awake.ok) hit_First.ok) hit_Any.ok) hit_asker_1.ok) vec_Sub_1.ok) vec_Add_1.ok) tri_Meet_1.ok) vec_Mul_1.ok) box_Through_1.ok) (deep_none _) Tryz.func4 (by kernel_rfl) (sok_fn trivial) (by kernel_rfl) (fun x => by kernel_rfl)
end Go.Proofs.Pen

namespace Go.Proofs.Pen
open Go Go.Proofs

theorem few_eq (l : List Tr) : law13_few (l, 100) = some ((l.take 100).filter tMay) := by
  unfold law13_few law13_few.t
  dsimp only
  rw [tr_opt]
  have h := iter_count (t := law13_few.t0) (fun k => (l, (100 : Int), (l.take k).filter tMay, (k : Int), ())) (e := .exit 0) (z := (l, (100 : Int), (l.take 100).filter tMay, ((min 100 l.length : Nat) : Int), ())) (by simp) (min 100 l.length) 0 rounds (fun k _ hk => by
    have hk1 : k < l.length := by omega
    have hle : ((l.take k).filter tMay).length ≤ 100 := Nat.le_trans (List.length_filter_le _ _) (by rw [List.length_take]; omega)
    have hft : (l.take (k + 1)).filter tMay = if tMay l[k] then (l.take k).filter tMay ++ [l[k]] else (l.take k).filter tMay := by
      rw [List.take_succ_eq_append_getElem hk1, List.filter_append, List.filter_cons]
      split <;> simp
    unfold law13_few.t0
    dsimp only
    rw [tr_yes (by simp; omega), tr_opt, lget_nat l hk1, Option.bind_some, tr_opt, ref12_May_eq, Option.bind_some, W_succ (by omega), hft]
    cases tMay l[k] with
    | true => rw [tr_yes rfl, tr_opt, Option.bind_some, tr_yes (decide_eq_true (room (by omega) (by decide))), tr_ret, take_all]; rfl
    | false => rw [tr_no rfl, tr_ret, List.take_length]; rfl) (by
    unfold law13_few.t0
    have h1 : l.take (0 + min 100 l.length) = l.take 100 := by
      rw [Nat.zero_add]
      rcases Nat.le_total 100 l.length with h | h
      · rw [Nat.min_eq_left h]
      · rw [Nat.min_eq_right h, List.take_length, List.take_of_length_le h]
    dsimp only
    rw [tr_no (by simp; omega), tr_ret, h1, List.take_length, Nat.zero_add]) (rounds_gt (by omega))
  refine bind_of h ?_
  rw [tr_yes (by rfl), tr_ret, List.take_length]
theorem hit_self {g : Nat → Option V3} (hg : ∀ i h, g i = some h → (∃ k, okey h.1 = some k) ∧ (∃ k, okey h.2.1 = some k) ∧ ∃ k, okey h.2.2 = some k) (n : Nat) : ((toHt (fwd g n)).1 == (toHt (fwd g n)).1 && (ford (toHt (fwd g n)).2.1 (toHt (fwd g n)).2.1 == some .eq && (ford (toHt (fwd g n)).2.2.1 (toHt (fwd g n)).2.2.1 == some .eq && ford (toHt (fwd g n)).2.2.2 (toHt (fwd g n)).2.2.2 == some .eq))) = true := by
  have key : ∀ a : Fl, (∃ k, okey a = some k) → (ford a a == some .eq) = true := fun a ⟨k, e⟩ => by rw [ford_eqk, e]; unfold keq; simp
  cases hf : fwd g n with
  | none =>
    have := key f0 ⟨0, okey_0⟩
    show (((-1 : Int) == -1) && (ford f0 f0 == some .eq && (ford f0 f0 == some .eq && ford f0 f0 == some .eq))) = true
    rw [this]; rfl
  | some x =>
    obtain ⟨h1, h2, h3⟩ := hg x.1 x.2 ((fwd_best (fun i h e => (hg i h e).1) n).some x hf).2.2.1
    show (((x.1 : Int) == (x.1 : Int)) && (ford x.2.1 x.2.1 == some .eq && (ford x.2.2.1 x.2.2.1 == some .eq && ford x.2.2.2 x.2.2.2 == some .eq))) = true
    rw [key _ h1, key _ h2, key _ h3]
    simp
theorem ge_okey {a b : Fl} (h : fge a b = true) : ∃ k, okey a = some k := by
  unfold fge at h
  rw [ford_ge] at h
  cases e : okey a with
  | none => rw [e] at h; cases hb : okey b <;> rw [hb] at h <;> simp [kle] at h
  | some k => exact ⟨k, rfl⟩
theorem meet_all {t : Tr} {r : Bx} {h : V3} (e : meet t r = some h) : (∃ k, okey h.1 = some k) ∧ (∃ k, okey h.2.1 = some k) ∧ ∃ k, okey h.2.2 = some k := by
  unfold meet at e
  rw [Option.bind_eq_some_iff] at e
  obtain ⟨x, hx, e⟩ := e
  unfold meetAt at e
  dsimp only at e
  split at e
  · cases e
  · split at e
    · rename_i hin
      cases e
      unfold inTri at hin
      simp only [Bool.and_eq_true] at hin
      exact ⟨ge_okey hin.2.1.1, ge_okey hin.1.1.1.1, ge_okey hin.1.1.2⟩
    · cases e
theorem ask_all (l : List Tr) (skip : List Int) (r : Bx) : ∀ i h, ask l skip r i = some h → (∃ k, okey h.1 = some k) ∧ (∃ k, okey h.2.1 = some k) ∧ ∃ k, okey h.2.2 = some k := fun i h e => by
  unfold ask at e
  split at e
  · split at e
    · cases e
    · exact meet_all e
  · cases e
theorem HitTrees_law (x : List Tr × Bx × Fl × List Int) : law13_HitTrees x = some true := by
  obtain ⟨l0, r, m, sk⟩ := x
  unfold law13_HitTrees law13_HitTrees.t
  dsimp only
  rw [tr_opt, few_eq, Option.bind_some]
  have hl : ((l0.take 100).filter tMay).length ≤ 200 := Nat.le_trans (List.length_filter_le _ _) (by rw [List.length_take]; omega)
  have hL : okL ((l0.take 100).filter tMay) := List.all_eq_true.2 fun t ht => (List.mem_filter.1 ht).2
  generalize (l0.take 100).filter tMay = l at hl hL
  obtain ⟨y, hy1, hy2⟩ := skips_eq sk
  have f1 := hit_First_eq l true y r hL hl hy2
  have f2 := hit_First_eq l false y r hL hl hy2
  have a1 := hit_Any_eq l true y r m hL hl hy2
  have a2 := hit_Any_eq l false y r m hL hl hy2
  have hs := hit_self (ask_all l y r) l.length
  rw [tr_opt, hy1, Option.bind_some, tr_opt, New_ok l true (by omega) hL, Option.bind_some, tr_no (by rfl), tr_opt, Option.bind_some, tr_opt, New_ok l false (by omega) hL, Option.bind_some, tr_no (by rfl), tr_opt, Option.bind_some, tr_no (by rfl), tr_opt, ref13_First_eq l r y hy2 (by omega), Option.bind_some, tr_opt, ref13_Any_eq l r m y hy2 (by omega), Option.bind_some, tr_yes rfl, tr_opt, f1, Option.bind_some, tr_yes hs, tr_opt, f2, Option.bind_some, tr_yes hs, tr_opt, a1, Option.bind_some, tr_yes (by simp), tr_opt, a2, Option.bind_some, tr_ret]
  simp
theorem HitTrees_all (x : dens [(.st (.pair (.sl TTri) (.pair TBox (.pair .flt (.sl TI)))))]) (_ : insAll [(.st (.pair (.sl TTri) (.pair TBox (.pair .flt (.sl TI)))))] x) : (law13_HitTrees.t x).run = some true := HitTrees_law x
end Go.Proofs.Pen
