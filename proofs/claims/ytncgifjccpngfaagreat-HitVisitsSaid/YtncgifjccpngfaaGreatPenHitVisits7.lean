/- A part of the proof that the law HitVisits is true of every input: models of the functions that the law reaches, and what holds of them. -/
import Derived.Test.YtncgifjccpngfaaGreatPenKit0
import Derived.Test.YtncgifjccpngfaaGreatPenKit1
import Derived.Test.YtncgifjccpngfaaGreatPenKit2
import Derived.Test.YtncgifjccpngfaaGreatPenKit3
import Derived.Test.YtncgifjccpngfaaGreatPenHitVisits4
import Derived.Test.YtncgifjccpngfaaGreatPenKit5
import Derived.Test.YtncgifjccpngfaaGreatPenHitVisits6
namespace Go.Proofs.Pen
open Go Go.Proofs
noncomputable def hit_First.deeps : Deeps := { D := [67, 126, 127, 68], C := [], frz := false, S := extSn (fun _ _ => noS) 67 4 (tabS eachFirst.S) }
theorem hit_First.deepsOk : LoopsOK Tryz.prog hit_First.deeps.S := (loops_extn (loops_none _) Tryz.func67 eachFirst.tab)
noncomputable def hit_First.t (x : ((List (((Option Nat × Option Nat × Option Nat) × Option Nat × Option Nat × Option Nat) × Int × Int × Int × Int)) × List (Int)) × (List ((Option Nat × Option Nat × Option Nat) × (Option Nat × Option Nat × Option Nat) × Option Nat × Option Nat × Option Nat)) × ((Option Nat × Option Nat × Option Nat) × Option Nat × Option Nat × Option Nat) × (List (Int))) : T ((Int × Option Nat × Option Nat × Option Nat)) := T.opt (bvh_Tree_Node (x.1, (0 : Int))) fun y => T.ite (!y.2) (T.opt (eachFirst.l0 (((0 : Int), some (0 : Nat), some (0 : Nat), some (0 : Nat)), ((-1 : Int), some (0 : Nat), some (0 : Nat), some (0 : Nat)), (x.2.1, x.2.2.2, x.2.2.1), x.1, (x.1, x.2.2.1, [], ()), some (0 : Nat), false, (0 : Int), ())) fun y => T.ite (exEq y.1 (Ex.exit (0 : Nat))) (T.ret y.2.2.1) T.fail) (T.opt (box_Through (y.1.1, x.2.2.1)) fun y => T.ite y.2.2 (T.ite (decide ((1 : Nat) * nat_lit 8 ≤ most)) (T.opt (eachFirst.l0 (((0 : Int), some (0 : Nat), some (0 : Nat), some (0 : Nat)), ((-1 : Int), some (0 : Nat), some (0 : Nat), some (0 : Nat)), (x.2.1, x.2.2.2, x.2.2.1), x.1, (x.1, x.2.2.1, [(0 : Int)], ()), some (0 : Nat), false, (0 : Int), ())) fun y => T.ite (exEq y.1 (Ex.exit (0 : Nat))) (T.ret y.2.2.1) T.fail) T.fail) (T.opt (eachFirst.l0 (((0 : Int), some (0 : Nat), some (0 : Nat), some (0 : Nat)), ((-1 : Int), some (0 : Nat), some (0 : Nat), some (0 : Nat)), (x.2.1, x.2.2.2, x.2.2.1), x.1, (x.1, x.2.2.1, [], ()), some (0 : Nat), false, (0 : Int), ())) fun y => T.ite (exEq y.1 (Ex.exit (0 : Nat))) (T.ret y.2.2.1) T.fail))
noncomputable def hit_First (x : ((List (((Option Nat × Option Nat × Option Nat) × Option Nat × Option Nat × Option Nat) × Int × Int × Int × Int)) × List (Int)) × (List ((Option Nat × Option Nat × Option Nat) × (Option Nat × Option Nat × Option Nat) × Option Nat × Option Nat × Option Nat)) × ((Option Nat × Option Nat × Option Nat) × Option Nat × Option Nat × Option Nat) × (List (Int))) : Option ((Int × Option Nat × Option Nat × Option Nat)) := (hit_First.t x).run
noncomputable def hit_First.q : List AV → T AV := entry [(.ptr TTree), (.sl TTri), TBox, (.sl TI)] (outR [THit]) fun x => .opt (hit_First x) .ret
theorem hit_First.ok : FnOK Tryz.prog 25 hit_First.q :=
  entry_call (ps := [(.ptr TTree), (.sl TTri), TBox, (.sl TI)]) (rs := [THit]) (F := (dp Tryz.prog (ext (ext (ext (ext (ext (ext (ext (ext (ext (ext (ext Xs 65 hit_none.q) 66 hit_asker.q) 13 bvh_Tree_Node.q) 51 bvh_Tree_Tri.q) 176 box_Through.q) 69 tri_Better.q) 123 hit_asker_1.q) 151 vec_Sub_1.q) 179 tri_Meet_1.q) 192 vec_Mul_1.q) 212 box_Through_1.q) hit_First.deeps 100 8)) (D := (inL hit_First.deeps.D)) (S := tabS []) (t := hit_First.t) mixed (dp_ok mixed (quiet_ext (quiet_ext (quiet_ext (quiet_ext (quiet_ext (quiet_ext (quiet_ext (quiet_ext (quiet_ext (quiet_ext (quiet_ext Xok hit_none.ok) hit_asker.ok) bvh_Tree_Node.ok) bvh_Tree_Tri.ok) box_Through.ok) tri_Better.ok) hit_asker_1.ok) vec_Sub_1.ok) tri_Meet_1.ok) vec_Mul_1.ok) box_Through_1.ok) hit_First.deepsOk 100 8).1 (dp_ok mixed (quiet_ext (quiet_ext (quiet_ext (quiet_ext (quiet_ext (quiet_ext (quiet_ext (quiet_ext (quiet_ext (quiet_ext (quiet_ext Xok hit_none.ok) hit_asker.ok) bvh_Tree_Node.ok) bvh_Tree_Tri.ok) box_Through.ok) tri_Better.ok) hit_asker_1.ok) vec_Sub_1.ok) tri_Meet_1.ok) vec_Mul_1.ok) box_Through_1.ok) hit_First.deepsOk 100 8).2 Tryz.func25 (by kernel_rfl) (sok_fn trivial) (by kernel_rfl) (fun x => by kernel_rfl)
end Go.Proofs.Pen

namespace Go.Proofs.Pen
open Go Go.Proofs
noncomputable def eachAny.deeps : Deeps := { D := [126, 127, 70], C := [], frz := false, S := fun _ _ => noS }
theorem eachAny.deepsOk : LoopsOK Tryz.prog eachAny.deeps.S := (loops_none _)
def eachAny.L2 : List (Nat × Lay) := [(9000, .bdead 0), (9001, .blk 1 .flt), (9002, .blk 2 .bool), (9003, .blk 3 (.clo 123 (.pair (.ptr (.sl TTri)) (.pair (.ptr (.sl TI)) (.ptr TBox))))), (0, .val (.ptr TTree)), (2, .clo 70 [3, 1, 2]), (7, .obx [.dat (.ptr TTree), .dat TBox, .own TI]), (8, .val .flt), (9, .val .bool), (10, .val TI), (11, .box TNode), (13, .val TI)]
noncomputable def eachAny.t2 (x : (Option Nat) × Bool × ((List ((Option Nat × Option Nat × Option Nat) × (Option Nat × Option Nat × Option Nat) × Option Nat × Option Nat × Option Nat)) × List (Int) × (Option Nat × Option Nat × Option Nat) × Option Nat × Option Nat × Option Nat) × ((List (((Option Nat × Option Nat × Option Nat) × Option Nat × Option Nat × Option Nat) × Int × Int × Int × Int)) × List (Int)) × (((List (((Option Nat × Option Nat × Option Nat) × Option Nat × Option Nat × Option Nat) × Int × Int × Int × Int)) × List (Int)) × ((Option Nat × Option Nat × Option Nat) × Option Nat × Option Nat × Option Nat) × List Int × Unit) × (Option Nat) × Bool × Int × (((Option Nat × Option Nat × Option Nat) × Option Nat × Option Nat × Option Nat) × Int × Int × Int × Int) × Int × Unit) : T (Ex × (Option Nat) × Bool × ((List ((Option Nat × Option Nat × Option Nat) × (Option Nat × Option Nat × Option Nat) × Option Nat × Option Nat × Option Nat)) × List (Int) × (Option Nat × Option Nat × Option Nat) × Option Nat × Option Nat × Option Nat) × ((List (((Option Nat × Option Nat × Option Nat) × Option Nat × Option Nat × Option Nat) × Int × Int × Int × Int)) × List (Int)) × (((List (((Option Nat × Option Nat × Option Nat) × Option Nat × Option Nat × Option Nat) × Int × Int × Int × Int)) × List (Int)) × ((Option Nat × Option Nat × Option Nat) × Option Nat × Option Nat × Option Nat) × List Int × Unit) × (Option Nat) × Bool × Int × (((Option Nat × Option Nat × Option Nat) × Option Nat × Option Nat × Option Nat) × Int × Int × Int × Int) × Int × Unit) := T.ite (decide (x.2.2.2.2.2.2.2.2.2.1 < x.2.2.2.2.2.2.2.2.1.2.2.2.2)) (T.opt (bvh_Tree_Tri (x.2.2.2.1, x.2.2.2.2.2.2.2.2.2.1)) fun y => T.opt (hit_asker_1 (y, x.2.2.1)) fun y => T.ite (decide (y.1 ≥ (0 : Int)) && ford y.2.1 x.1 == some Ordering.lt) (T.ret (Ex.normal, x.1, true, x.2.2.1, x.2.2.2.1, (x.2.2.2.2.1.1, x.2.2.2.2.1.2.1, List.take x.2.2.2.2.1.2.2.1.length x.2.2.2.2.1.2.2.1, ()), some (13830554455654793216 : Nat), true, x.2.2.2.2.2.2.2.1, x.2.2.2.2.2.2.2.2.1, W (x.2.2.2.2.2.2.2.2.2.1 + (1 : Int)), ())) (T.ite x.2.1 (T.ret (Ex.normal, x.1, x.2.1, x.2.2.1, x.2.2.2.1, (x.2.2.2.2.1.1, x.2.2.2.2.1.2.1, List.take x.2.2.2.2.1.2.2.1.length x.2.2.2.2.1.2.2.1, ()), some (13830554455654793216 : Nat), true, x.2.2.2.2.2.2.2.1, x.2.2.2.2.2.2.2.2.1, W (x.2.2.2.2.2.2.2.2.2.1 + (1 : Int)), ())) (T.ret (Ex.normal, x.1, x.2.1, x.2.2.1, x.2.2.2.1, (x.2.2.2.2.1.1, x.2.2.2.2.1.2.1, List.take x.2.2.2.2.1.2.2.1.length x.2.2.2.2.1.2.2.1, ()), x.2.2.2.2.2.1, x.2.2.2.2.2.2.1, x.2.2.2.2.2.2.2.1, x.2.2.2.2.2.2.2.2.1, W (x.2.2.2.2.2.2.2.2.2.1 + (1 : Int)), ())))) (T.ret (Ex.exit (2 : Nat), x.1, x.2.1, x.2.2.1, x.2.2.2.1, (x.2.2.2.2.1.1, x.2.2.2.2.1.2.1, List.take x.2.2.2.2.1.2.2.1.length x.2.2.2.2.1.2.2.1, ()), x.2.2.2.2.2.1, x.2.2.2.2.2.2.1, x.2.2.2.2.2.2.2.1, x.2.2.2.2.2.2.2.2.1, x.2.2.2.2.2.2.2.2.2.1, ()))
noncomputable def eachAny.l2 (x : (Option Nat) × Bool × ((List ((Option Nat × Option Nat × Option Nat) × (Option Nat × Option Nat × Option Nat) × Option Nat × Option Nat × Option Nat)) × List (Int) × (Option Nat × Option Nat × Option Nat) × Option Nat × Option Nat × Option Nat) × ((List (((Option Nat × Option Nat × Option Nat) × Option Nat × Option Nat × Option Nat) × Int × Int × Int × Int)) × List (Int)) × (((List (((Option Nat × Option Nat × Option Nat) × Option Nat × Option Nat × Option Nat) × Int × Int × Int × Int)) × List (Int)) × ((Option Nat × Option Nat × Option Nat) × Option Nat × Option Nat × Option Nat) × List Int × Unit) × (Option Nat) × Bool × Int × (((Option Nat × Option Nat × Option Nat) × Option Nat × Option Nat × Option Nat) × Int × Int × Int × Int) × Int × Unit) : Option (Ex × (Option Nat) × Bool × ((List ((Option Nat × Option Nat × Option Nat) × (Option Nat × Option Nat × Option Nat) × Option Nat × Option Nat × Option Nat)) × List (Int) × (Option Nat × Option Nat × Option Nat) × Option Nat × Option Nat × Option Nat) × ((List (((Option Nat × Option Nat × Option Nat) × Option Nat × Option Nat × Option Nat) × Int × Int × Int × Int)) × List (Int)) × (((List (((Option Nat × Option Nat × Option Nat) × Option Nat × Option Nat × Option Nat) × Int × Int × Int × Int)) × List (Int)) × ((Option Nat × Option Nat × Option Nat) × Option Nat × Option Nat × Option Nat) × List Int × Unit) × (Option Nat) × Bool × Int × (((Option Nat × Option Nat × Option Nat) × Option Nat × Option Nat × Option Nat) × Int × Int × Int × Int) × Int × Unit) := (iterT eachAny.t2 rounds x).run
theorem eachAny.k2 : bodies 2 (lp Tryz.f67 [0]) = [.loop (loopIn 2 (lp Tryz.f67 [0]))] ∧ WP Tryz.prog 4 (.block 2 (.loop (loopIn 2 (lp Tryz.f67 [0])))) (loopS eachAny.L2 71 2 [.exit 2] eachAny.l2) :=
  loop_treeN 4 (L := eachAny.L2) (F := (dp Tryz.prog (ext (ext (ext (ext (ext (ext (ext Xs 51 bvh_Tree_Tri.q) 13 bvh_Tree_Node.q) 176 box_Through.q) 69 tri_Better.q) 123 hit_asker_1.q) 65 hit_none.q) 212 box_Through_1.q) eachAny.deeps 100 8)) (D := (inL eachAny.deeps.D)) (tab := []) (t := eachAny.t2) mixed (dp_ok mixed (quiet_ext (quiet_ext (quiet_ext (quiet_ext (quiet_ext (quiet_ext (quiet_ext Xok bvh_Tree_Tri.ok) bvh_Tree_Node.ok) box_Through.ok) tri_Better.ok) hit_asker_1.ok) hit_none.ok) box_Through_1.ok) eachAny.deepsOk 100 8).1 (dp_ok mixed (quiet_ext (quiet_ext (quiet_ext (quiet_ext (quiet_ext (quiet_ext (quiet_ext Xok bvh_Tree_Tri.ok) bvh_Tree_Node.ok) box_Through.ok) tri_Better.ok) hit_asker_1.ok) hit_none.ok) box_Through_1.ok) eachAny.deepsOk 100 8).2 (fun _ => rfl) (by kernel_rfl) (by kernel_rfl) trivial (fun x => by kernel_rfl)
def eachAny.L0 : List (Nat × Lay) := [(9000, .bdead 0), (9001, .blk 1 .flt), (9002, .blk 2 .bool), (9003, .blk 3 (.clo 123 (.pair (.ptr (.sl TTri)) (.pair (.ptr (.sl TI)) (.ptr TBox))))), (0, .val (.ptr TTree)), (2, .clo 70 [3, 1, 2]), (7, .obx [.dat (.ptr TTree), .dat TBox, .own TI]), (8, .val .flt), (9, .val .bool), (10, .val TI)]
noncomputable def eachAny.t0 (x : (Option Nat) × Bool × ((List ((Option Nat × Option Nat × Option Nat) × (Option Nat × Option Nat × Option Nat) × Option Nat × Option Nat × Option Nat)) × List (Int) × (Option Nat × Option Nat × Option Nat) × Option Nat × Option Nat × Option Nat) × ((List (((Option Nat × Option Nat × Option Nat) × Option Nat × Option Nat × Option Nat) × Int × Int × Int × Int)) × List (Int)) × (((List (((Option Nat × Option Nat × Option Nat) × Option Nat × Option Nat × Option Nat) × Int × Int × Int × Int)) × List (Int)) × ((Option Nat × Option Nat × Option Nat) × Option Nat × Option Nat × Option Nat) × List Int × Unit) × (Option Nat) × Bool × Int × Unit) : T (Ex × (Option Nat) × Bool × ((List ((Option Nat × Option Nat × Option Nat) × (Option Nat × Option Nat × Option Nat) × Option Nat × Option Nat × Option Nat)) × List (Int) × (Option Nat × Option Nat × Option Nat) × Option Nat × Option Nat × Option Nat) × ((List (((Option Nat × Option Nat × Option Nat) × Option Nat × Option Nat × Option Nat) × Int × Int × Int × Int)) × List (Int)) × (((List (((Option Nat × Option Nat × Option Nat) × Option Nat × Option Nat × Option Nat) × Int × Int × Int × Int)) × List (Int)) × ((Option Nat × Option Nat × Option Nat) × Option Nat × Option Nat × Option Nat) × List Int × Unit) × (Option Nat) × Bool × Int × Unit) := T.ite (decide ((↑x.2.2.2.2.1.2.2.1.length : Int) > (0 : Int))) (T.ite (decide ((0 : Int) ≤ W ((↑x.2.2.2.2.1.2.2.1.length : Int) - (1 : Int))) && decide (W ((↑x.2.2.2.2.1.2.2.1.length : Int) - (1 : Int)) < (↑x.2.2.2.2.1.2.2.1.length : Int))) (T.opt x.2.2.2.2.1.2.2.1[(0 : Nat) + (W ((↑x.2.2.2.2.1.2.2.1.length : Int) - (1 : Int))).toNat]? fun y => T.ite (decide ((0 : Int) ≤ (0 : Int)) && decide ((0 : Int) ≤ W ((↑x.2.2.2.2.1.2.2.1.length : Int) - (1 : Int))) && decide (W ((↑x.2.2.2.2.1.2.2.1.length : Int) - (1 : Int)) ≤ (↑x.2.2.2.2.1.2.2.1.length : Int))) (T.opt (bvh_Tree_Node (x.2.2.2.2.1.1, y)) fun y => T.opt (box_Through (y.1.1, x.2.2.2.2.1.2.1)) fun y_1 => T.ite (x.2.2.2.2.2.2.1 && ford y_1.fst x.2.2.2.2.2.1 == some Ordering.gt) (T.ret (Ex.normal, x.1, x.2.1, x.2.2.1, x.2.2.2.1, (x.2.2.2.2.1.1, x.2.2.2.2.1.2.1, List.take ((W ((↑x.2.2.2.2.1.2.2.1.length : Int) - (1 : Int))).toNat - Int.toNat (0 : Int)) x.2.2.2.2.1.2.2.1, ()), x.2.2.2.2.2.1, x.2.2.2.2.2.2.1, W (x.2.2.2.2.2.2.2.1 + (1 : Int)), ())) (T.opt (eachAny.l2 (x.1, x.2.1, x.2.2.1, x.2.2.2.1, (x.2.2.2.2.1.1, x.2.2.2.2.1.2.1, List.take ((W ((↑x.2.2.2.2.1.2.2.1.length : Int) - (1 : Int))).toNat - Int.toNat (0 : Int)) x.2.2.2.2.1.2.2.1, ()), x.2.2.2.2.2.1, x.2.2.2.2.2.2.1, W (x.2.2.2.2.2.2.2.1 + (1 : Int)), y.1, y.1.2.2.2.1, ())) fun y => T.ite (exEq y.1 (Ex.exit (2 : Nat))) (T.ite (decide (y.2.2.2.2.2.2.2.2.2.1.2.1 > (0 : Int))) (T.opt (bvh_Tree_Node (y.2.2.2.2.2.1.1, y.2.2.2.2.2.2.2.2.2.1.2.2.1)) fun y_2 => T.ite (!y_2.snd) (T.opt (bvh_Tree_Node (y.2.2.2.2.2.1.1, y.2.2.2.2.2.2.2.2.2.1.2.1)) fun y_3 => T.ite (!y_3.snd) (T.ret (Ex.normal, y.2.1, y.2.2.1, y.2.2.2.1, y.2.2.2.2.1, (y.2.2.2.2.2.1.1, y.2.2.2.2.2.1.2.1, List.take y.2.2.2.2.2.1.2.2.1.length y.2.2.2.2.2.1.2.2.1, ()), y.2.2.2.2.2.2.1, y.2.2.2.2.2.2.2.1, y.2.2.2.2.2.2.2.2.1, ())) (T.opt (box_Through (y_3.fst.fst, y.2.2.2.2.2.1.2.1)) fun y_4 => T.ite y_4.snd.snd (T.ite (decide ((y.2.2.2.2.2.1.2.2.1.length + (1 : Nat)) * nat_lit 8 ≤ most)) (T.ret (Ex.normal, y.2.1, y.2.2.1, y.2.2.2.1, y.2.2.2.2.1, (y.2.2.2.2.2.1.1, y.2.2.2.2.2.1.2.1, List.take (y.2.2.2.2.2.1.2.2.1.length + (1 : Nat)) (List.take y.2.2.2.2.2.1.2.2.1.length y.2.2.2.2.2.1.2.2.1 ++ [y.2.2.2.2.2.2.2.2.2.1.2.1]), ()), y.2.2.2.2.2.2.1, y.2.2.2.2.2.2.2.1, y.2.2.2.2.2.2.2.2.1, ())) T.fail) (T.ret (Ex.normal, y.2.1, y.2.2.1, y.2.2.2.1, y.2.2.2.2.1, (y.2.2.2.2.2.1.1, y.2.2.2.2.2.1.2.1, List.take y.2.2.2.2.2.1.2.2.1.length y.2.2.2.2.2.1.2.2.1, ()), y.2.2.2.2.2.2.1, y.2.2.2.2.2.2.2.1, y.2.2.2.2.2.2.2.2.1, ())))) (T.opt (box_Through (y_2.fst.fst, y.2.2.2.2.2.1.2.1)) fun y_3 => T.ite y_3.snd.snd (T.ite (decide ((y.2.2.2.2.2.1.2.2.1.length + (1 : Nat)) * nat_lit 8 ≤ most)) (T.opt (bvh_Tree_Node (y.2.2.2.2.2.1.1, y.2.2.2.2.2.2.2.2.2.1.2.1)) fun y_4 => T.ite (!y_4.snd) (T.ret (Ex.normal, y.2.1, y.2.2.1, y.2.2.2.1, y.2.2.2.2.1, (y.2.2.2.2.2.1.1, y.2.2.2.2.2.1.2.1, List.take (y.2.2.2.2.2.1.2.2.1.length + (1 : Nat)) (List.take y.2.2.2.2.2.1.2.2.1.length y.2.2.2.2.2.1.2.2.1 ++ [y.2.2.2.2.2.2.2.2.2.1.2.2.1]), ()), y.2.2.2.2.2.2.1, y.2.2.2.2.2.2.2.1, y.2.2.2.2.2.2.2.2.1, ())) (T.opt (box_Through (y_4.fst.fst, y.2.2.2.2.2.1.2.1)) fun y_5 => T.ite y_5.snd.snd (T.ite (decide ((y.2.2.2.2.2.1.2.2.1.length + (1 : Nat) + (1 : Nat)) * nat_lit 8 ≤ most)) (T.ret (Ex.normal, y.2.1, y.2.2.1, y.2.2.2.1, y.2.2.2.2.1, (y.2.2.2.2.2.1.1, y.2.2.2.2.2.1.2.1, List.take (y.2.2.2.2.2.1.2.2.1.length + (1 : Nat) + (1 : Nat)) (List.take (y.2.2.2.2.2.1.2.2.1.length + (1 : Nat)) (List.take y.2.2.2.2.2.1.2.2.1.length y.2.2.2.2.2.1.2.2.1 ++ [y.2.2.2.2.2.2.2.2.2.1.2.2.1]) ++ [y.2.2.2.2.2.2.2.2.2.1.2.1]), ()), y.2.2.2.2.2.2.1, y.2.2.2.2.2.2.2.1, y.2.2.2.2.2.2.2.2.1, ())) T.fail) (T.ret (Ex.normal, y.2.1, y.2.2.1, y.2.2.2.1, y.2.2.2.2.1, (y.2.2.2.2.2.1.1, y.2.2.2.2.2.1.2.1, List.take (y.2.2.2.2.2.1.2.2.1.length + (1 : Nat)) (List.take y.2.2.2.2.2.1.2.2.1.length y.2.2.2.2.2.1.2.2.1 ++ [y.2.2.2.2.2.2.2.2.2.1.2.2.1]), ()), y.2.2.2.2.2.2.1, y.2.2.2.2.2.2.2.1, y.2.2.2.2.2.2.2.2.1, ())))) T.fail) (T.opt (bvh_Tree_Node (y.2.2.2.2.2.1.1, y.2.2.2.2.2.2.2.2.2.1.2.1)) fun y_4 => T.ite (!y_4.snd) (T.ret (Ex.normal, y.2.1, y.2.2.1, y.2.2.2.1, y.2.2.2.2.1, (y.2.2.2.2.2.1.1, y.2.2.2.2.2.1.2.1, List.take y.2.2.2.2.2.1.2.2.1.length y.2.2.2.2.2.1.2.2.1, ()), y.2.2.2.2.2.2.1, y.2.2.2.2.2.2.2.1, y.2.2.2.2.2.2.2.2.1, ())) (T.opt (box_Through (y_4.fst.fst, y.2.2.2.2.2.1.2.1)) fun y_5 => T.ite y_5.snd.snd (T.ite (decide ((y.2.2.2.2.2.1.2.2.1.length + (1 : Nat)) * nat_lit 8 ≤ most)) (T.ret (Ex.normal, y.2.1, y.2.2.1, y.2.2.2.1, y.2.2.2.2.1, (y.2.2.2.2.2.1.1, y.2.2.2.2.2.1.2.1, List.take (y.2.2.2.2.2.1.2.2.1.length + (1 : Nat)) (List.take y.2.2.2.2.2.1.2.2.1.length y.2.2.2.2.2.1.2.2.1 ++ [y.2.2.2.2.2.2.2.2.2.1.2.1]), ()), y.2.2.2.2.2.2.1, y.2.2.2.2.2.2.2.1, y.2.2.2.2.2.2.2.2.1, ())) T.fail) (T.ret (Ex.normal, y.2.1, y.2.2.1, y.2.2.2.1, y.2.2.2.2.1, (y.2.2.2.2.2.1.1, y.2.2.2.2.2.1.2.1, List.take y.2.2.2.2.2.1.2.2.1.length y.2.2.2.2.2.1.2.2.1, ()), y.2.2.2.2.2.2.1, y.2.2.2.2.2.2.2.1, y.2.2.2.2.2.2.2.2.1, ())))))) (T.ret (Ex.normal, y.2.1, y.2.2.1, y.2.2.2.1, y.2.2.2.2.1, (y.2.2.2.2.2.1.1, y.2.2.2.2.2.1.2.1, List.take y.2.2.2.2.2.1.2.2.1.length y.2.2.2.2.2.1.2.2.1, ()), y.2.2.2.2.2.2.1, y.2.2.2.2.2.2.2.1, y.2.2.2.2.2.2.2.2.1, ()))) T.fail)) T.fail) T.fail) (T.ret (Ex.exit (0 : Nat), x.1, x.2.1, x.2.2.1, x.2.2.2.1, (x.2.2.2.2.1.1, x.2.2.2.2.1.2.1, List.take x.2.2.2.2.1.2.2.1.length x.2.2.2.2.1.2.2.1, ()), x.2.2.2.2.2.1, x.2.2.2.2.2.2.1, x.2.2.2.2.2.2.2.1, ()))
noncomputable def eachAny.l0 (x : (Option Nat) × Bool × ((List ((Option Nat × Option Nat × Option Nat) × (Option Nat × Option Nat × Option Nat) × Option Nat × Option Nat × Option Nat)) × List (Int) × (Option Nat × Option Nat × Option Nat) × Option Nat × Option Nat × Option Nat) × ((List (((Option Nat × Option Nat × Option Nat) × Option Nat × Option Nat × Option Nat) × Int × Int × Int × Int)) × List (Int)) × (((List (((Option Nat × Option Nat × Option Nat) × Option Nat × Option Nat × Option Nat) × Int × Int × Int × Int)) × List (Int)) × ((Option Nat × Option Nat × Option Nat) × Option Nat × Option Nat × Option Nat) × List Int × Unit) × (Option Nat) × Bool × Int × Unit) : Option (Ex × (Option Nat) × Bool × ((List ((Option Nat × Option Nat × Option Nat) × (Option Nat × Option Nat × Option Nat) × Option Nat × Option Nat × Option Nat)) × List (Int) × (Option Nat × Option Nat × Option Nat) × Option Nat × Option Nat × Option Nat) × ((List (((Option Nat × Option Nat × Option Nat) × Option Nat × Option Nat × Option Nat) × Int × Int × Int × Int)) × List (Int)) × (((List (((Option Nat × Option Nat × Option Nat) × Option Nat × Option Nat × Option Nat) × Int × Int × Int × Int)) × List (Int)) × ((Option Nat × Option Nat × Option Nat) × Option Nat × Option Nat × Option Nat) × List Int × Unit) × (Option Nat) × Bool × Int × Unit) := (iterT eachAny.t0 rounds x).run
theorem eachAny.k0 : bodies 0 (lp Tryz.f67 []) = [.loop (loopIn 0 (lp Tryz.f67 []))] ∧ WP Tryz.prog 4 (.block 0 (.loop (loopIn 0 (lp Tryz.f67 [])))) (loopS eachAny.L0 71 0 [.exit 0] eachAny.l0) :=
  loop_treeN 4 (L := eachAny.L0) (F := (dp Tryz.prog (ext (ext (ext (ext (ext (ext (ext Xs 51 bvh_Tree_Tri.q) 13 bvh_Tree_Node.q) 176 box_Through.q) 69 tri_Better.q) 123 hit_asker_1.q) 65 hit_none.q) 212 box_Through_1.q) eachAny.deeps 100 8)) (D := (inL eachAny.deeps.D)) (tab := [(2, loopS eachAny.L2 71 2 [.exit 2] eachAny.l2)]) (t := eachAny.t0) mixed (dp_ok mixed (quiet_ext (quiet_ext (quiet_ext (quiet_ext (quiet_ext (quiet_ext (quiet_ext Xok bvh_Tree_Tri.ok) bvh_Tree_Node.ok) box_Through.ok) tri_Better.ok) hit_asker_1.ok) hit_none.ok) box_Through_1.ok) eachAny.deepsOk 100 8).1 (dp_ok mixed (quiet_ext (quiet_ext (quiet_ext (quiet_ext (quiet_ext (quiet_ext (quiet_ext Xok bvh_Tree_Tri.ok) bvh_Tree_Node.ok) box_Through.ok) tri_Better.ok) hit_asker_1.ok) hit_none.ok) box_Through_1.ok) eachAny.deepsOk 100 8).2 (fun _ => rfl) (by kernel_rfl) (by kernel_rfl) ⟨eachAny.k2, trivial⟩ (fun x => by kernel_rfl)
noncomputable def eachAny.S : List (Nat × (St → T (Ex × St))) := [(0, loopS eachAny.L0 71 0 [.exit 0] eachAny.l0)]
theorem eachAny.tab : TabOK Tryz.prog 4 (codeOf Tryz.f67) eachAny.S := ⟨eachAny.k0, trivial⟩
end Go.Proofs.Pen

namespace Go.Proofs.Pen
open Go Go.Proofs
noncomputable def hit_Any.deeps : Deeps := { D := [67, 126, 127, 70], C := [], frz := false, S := extSn (fun _ _ => noS) 67 4 (tabS eachAny.S) }
theorem hit_Any.deepsOk : LoopsOK Tryz.prog hit_Any.deeps.S := (loops_extn (loops_none _) Tryz.func67 eachAny.tab)
noncomputable def hit_Any.t (x : ((List (((Option Nat × Option Nat × Option Nat) × Option Nat × Option Nat × Option Nat) × Int × Int × Int × Int)) × List (Int)) × (List ((Option Nat × Option Nat × Option Nat) × (Option Nat × Option Nat × Option Nat) × Option Nat × Option Nat × Option Nat)) × ((Option Nat × Option Nat × Option Nat) × Option Nat × Option Nat × Option Nat) × (Option Nat) × (List (Int))) : T (Bool) := T.opt (bvh_Tree_Node (x.1, (0 : Int))) fun y => T.ite (!y.2) (T.opt (eachAny.l0 (x.2.2.2.1, false, (x.2.1, x.2.2.2.2, x.2.2.1), x.1, (x.1, x.2.2.1, [], ()), some (0 : Nat), false, (0 : Int), ())) fun y => T.ite (exEq y.1 (Ex.exit (0 : Nat))) (T.ret y.2.2.1) T.fail) (T.opt (box_Through (y.1.1, x.2.2.1)) fun y => T.ite y.2.2 (T.ite (decide ((1 : Nat) * nat_lit 8 ≤ most)) (T.opt (eachAny.l0 (x.2.2.2.1, false, (x.2.1, x.2.2.2.2, x.2.2.1), x.1, (x.1, x.2.2.1, [(0 : Int)], ()), some (0 : Nat), false, (0 : Int), ())) fun y => T.ite (exEq y.1 (Ex.exit (0 : Nat))) (T.ret y.2.2.1) T.fail) T.fail) (T.opt (eachAny.l0 (x.2.2.2.1, false, (x.2.1, x.2.2.2.2, x.2.2.1), x.1, (x.1, x.2.2.1, [], ()), some (0 : Nat), false, (0 : Int), ())) fun y => T.ite (exEq y.1 (Ex.exit (0 : Nat))) (T.ret y.2.2.1) T.fail))
noncomputable def hit_Any (x : ((List (((Option Nat × Option Nat × Option Nat) × Option Nat × Option Nat × Option Nat) × Int × Int × Int × Int)) × List (Int)) × (List ((Option Nat × Option Nat × Option Nat) × (Option Nat × Option Nat × Option Nat) × Option Nat × Option Nat × Option Nat)) × ((Option Nat × Option Nat × Option Nat) × Option Nat × Option Nat × Option Nat) × (Option Nat) × (List (Int))) : Option (Bool) := (hit_Any.t x).run
noncomputable def hit_Any.q : List AV → T AV := entry [(.ptr TTree), (.sl TTri), TBox, .flt, (.sl TI)] (outR [.bool]) fun x => .opt (hit_Any x) .ret
theorem hit_Any.ok : FnOK Tryz.prog 26 hit_Any.q :=
  entry_call (ps := [(.ptr TTree), (.sl TTri), TBox, .flt, (.sl TI)]) (rs := [.bool]) (F := (dp Tryz.prog (ext (ext (ext (ext (ext (ext (ext (ext (ext (ext (ext Xs 66 hit_asker.q) 13 bvh_Tree_Node.q) 51 bvh_Tree_Tri.q) 176 box_Through.q) 69 tri_Better.q) 123 hit_asker_1.q) 65 hit_none.q) 151 vec_Sub_1.q) 179 tri_Meet_1.q) 192 vec_Mul_1.q) 212 box_Through_1.q) hit_Any.deeps 100 8)) (D := (inL hit_Any.deeps.D)) (S := tabS []) (t := hit_Any.t) mixed (dp_ok mixed (quiet_ext (quiet_ext (quiet_ext (quiet_ext (quiet_ext (quiet_ext (quiet_ext (quiet_ext (quiet_ext (quiet_ext (quiet_ext Xok hit_asker.ok) bvh_Tree_Node.ok) bvh_Tree_Tri.ok) box_Through.ok) tri_Better.ok) hit_asker_1.ok) hit_none.ok) vec_Sub_1.ok) tri_Meet_1.ok) vec_Mul_1.ok) box_Through_1.ok) hit_Any.deepsOk 100 8).1 (dp_ok mixed (quiet_ext (quiet_ext (quiet_ext (quiet_ext (quiet_ext (quiet_ext (quiet_ext (quiet_ext (quiet_ext (quiet_ext (quiet_ext Xok hit_asker.ok) bvh_Tree_Node.ok) bvh_Tree_Tri.ok) box_Through.ok) tri_Better.ok) hit_asker_1.ok) hit_none.ok) vec_Sub_1.ok) tri_Meet_1.ok) vec_Mul_1.ok) box_Through_1.ok) hit_Any.deepsOk 100 8).2 Tryz.func26 (by kernel_rfl) (sok_fn trivial) (by kernel_rfl) (fun x => by kernel_rfl)
end Go.Proofs.Pen

namespace Go.Proofs.Pen
open Go Go.Proofs
def hit_Scan.L0 : List (Nat × Lay) := [(6, .box THit), (7, .box THit), (8, .val (.clo 123 (.pair (.ptr (.sl TTri)) (.pair (.ptr (.sl TI)) (.ptr TBox))))), (17, .val TI), (18, .val TI)]
noncomputable def hit_Scan.t0 (x : (Int × Option Nat × Option Nat × Option Nat) × (Int × Option Nat × Option Nat × Option Nat) × ((List ((Option Nat × Option Nat × Option Nat) × (Option Nat × Option Nat × Option Nat) × Option Nat × Option Nat × Option Nat)) × List (Int) × (Option Nat × Option Nat × Option Nat) × Option Nat × Option Nat × Option Nat) × Int × Int × Unit) : T (Ex × (Int × Option Nat × Option Nat × Option Nat) × (Int × Option Nat × Option Nat × Option Nat) × ((List ((Option Nat × Option Nat × Option Nat) × (Option Nat × Option Nat × Option Nat) × Option Nat × Option Nat × Option Nat)) × List (Int) × (Option Nat × Option Nat × Option Nat) × Option Nat × Option Nat × Option Nat) × Int × Int × Unit) := T.ite (decide (x.2.2.2.2.1 < x.2.2.2.1)) (T.opt (hit_asker_1 (x.2.2.2.2.1, x.2.2.1)) fun y => T.opt (tri_Better (y, x.2.1)) fun y_1 => T.ite y_1 (T.ret (Ex.normal, x.1, y, x.2.2.1, x.2.2.2.1, W (x.2.2.2.2.1 + (1 : Int)), ())) (T.ret (Ex.normal, x.1, x.2.1, x.2.2.1, x.2.2.2.1, W (x.2.2.2.2.1 + (1 : Int)), ()))) (T.ret (Ex.exit (0 : Nat), x.1, x.2.1, x.2.2.1, x.2.2.2.1, x.2.2.2.2.1, ()))
noncomputable def hit_Scan.l0 (x : (Int × Option Nat × Option Nat × Option Nat) × (Int × Option Nat × Option Nat × Option Nat) × ((List ((Option Nat × Option Nat × Option Nat) × (Option Nat × Option Nat × Option Nat) × Option Nat × Option Nat × Option Nat)) × List (Int) × (Option Nat × Option Nat × Option Nat) × Option Nat × Option Nat × Option Nat) × Int × Int × Unit) : Option (Ex × (Int × Option Nat × Option Nat × Option Nat) × (Int × Option Nat × Option Nat × Option Nat) × ((List ((Option Nat × Option Nat × Option Nat) × (Option Nat × Option Nat × Option Nat) × Option Nat × Option Nat × Option Nat)) × List (Int) × (Option Nat × Option Nat × Option Nat) × Option Nat × Option Nat × Option Nat) × Int × Int × Unit) := (iterT hit_Scan.t0 rounds x).run
theorem hit_Scan.k0 : bodies 0 (lp Tryz.f30 []) = [.loop (loopIn 0 (lp Tryz.f30 []))] ∧ WP Tryz.prog 0 (.block 0 (.loop (loopIn 0 (lp Tryz.f30 [])))) (loopS hit_Scan.L0 30 0 [.exit 0] hit_Scan.l0) :=
  loop_tree (L := hit_Scan.L0) (F := ({ quiet := (ext (ext (ext (ext (ext (ext (ext (ext Xs 65 hit_none.q) 66 hit_asker.q) 69 tri_Better.q) 123 hit_asker_1.q) 151 vec_Sub_1.q) 179 tri_Meet_1.q) 192 vec_Mul_1.q) 212 box_Through_1.q), deep := noDeep } : Fns)) (D := D0) (tab := []) (t := hit_Scan.t0) mixed (quiet_ext (quiet_ext (quiet_ext (quiet_ext (quiet_ext (quiet_ext (quiet_ext (quiet_ext Xok hit_none.ok) hit_asker.ok) tri_Better.ok) hit_asker_1.ok) vec_Sub_1.ok) tri_Meet_1.ok) vec_Mul_1.ok) box_Through_1.ok) (deep_none _) (fun _ => rfl) (by kernel_rfl) (by kernel_rfl) trivial (fun x => by kernel_rfl)
noncomputable def hit_Scan.t (x : (List ((Option Nat × Option Nat × Option Nat) × (Option Nat × Option Nat × Option Nat) × Option Nat × Option Nat × Option Nat)) × ((Option Nat × Option Nat × Option Nat) × Option Nat × Option Nat × Option Nat) × (List (Int))) : T ((Int × Option Nat × Option Nat × Option Nat)) := T.opt (hit_Scan.l0 (((0 : Int), some (0 : Nat), some (0 : Nat), some (0 : Nat)), ((-1 : Int), some (0 : Nat), some (0 : Nat), some (0 : Nat)), (x.1, x.2.2, x.2.1), (↑(List.length x.1) : Int), (0 : Int), ())) fun y => T.ite (exEq y.1 (Ex.exit (0 : Nat))) (T.ret y.2.2.1) T.fail
noncomputable def hit_Scan (x : (List ((Option Nat × Option Nat × Option Nat) × (Option Nat × Option Nat × Option Nat) × Option Nat × Option Nat × Option Nat)) × ((Option Nat × Option Nat × Option Nat) × Option Nat × Option Nat × Option Nat) × (List (Int))) : Option ((Int × Option Nat × Option Nat × Option Nat)) := (hit_Scan.t x).run
noncomputable def hit_Scan.q : List AV → T AV := entry [(.sl TTri), TBox, (.sl TI)] (outR [THit]) fun x => .opt (hit_Scan x) .ret
theorem hit_Scan.ok : FnOK Tryz.prog 30 hit_Scan.q :=
  entry_call (ps := [(.sl TTri), TBox, (.sl TI)]) (rs := [THit]) (F := ({ quiet := (ext (ext (ext (ext (ext (ext (ext (ext Xs 65 hit_none.q) 66 hit_asker.q) 69 tri_Better.q) 123 hit_asker_1.q) 151 vec_Sub_1.q) 179 tri_Meet_1.q) 192 vec_Mul_1.q) 212 box_Through_1.q), deep := noDeep } : Fns)) (D := D0) (S := tabS [(0, loopS hit_Scan.L0 30 0 [.exit 0] hit_Scan.l0)]) (t := hit_Scan.t) mixed (quiet_ext (quiet_ext (quiet_ext (quiet_ext (quiet_ext (quiet_ext (quiet_ext (quiet_ext Xok hit_none.ok) hit_asker.ok) tri_Better.ok) hit_asker_1.ok) vec_Sub_1.ok) tri_Meet_1.ok) vec_Mul_1.ok) box_Through_1.ok) (deep_none _) Tryz.func30 (by kernel_rfl) (sok_fn ⟨hit_Scan.k0, trivial⟩) (by kernel_rfl) (fun x => by kernel_rfl)
end Go.Proofs.Pen

namespace Go.Proofs.Pen
open Go Go.Proofs
noncomputable def ref02_Number.t (x : (Option Nat)) : T (Bool) := T.ret (ford (fop BinOp.sub x x) (some (0 : Nat)) == some Ordering.eq)
noncomputable def ref02_Number.q : List AV → T AV := entry [.flt] (outR [.bool]) ref02_Number.t
theorem ref02_Number.ok : FnOK Tryz.prog 129 ref02_Number.q :=
  entry_in (ps := [.flt]) (rs := [.bool]) (F := ({ quiet := Xs, deep := noDeep } : Fns)) (D := D0) (S := tabS []) (t := ref02_Number.t) mixed Xok (deep_none _) Tryz.func129 (by kernel_rfl) (sok_fn trivial) (by kernel_rfl) (fun x => by kernel_rfl)
end Go.Proofs.Pen

namespace Go.Proofs.Pen
open Go Go.Proofs
noncomputable def ref02_Finite.t (x : (Option Nat × Option Nat × Option Nat)) : T (Bool) := T.ite (ford (fop BinOp.sub x.1 x.1) (some (0 : Nat)) == some Ordering.eq) (T.ite (ford (fop BinOp.sub x.2.1 x.2.1) (some (0 : Nat)) == some Ordering.eq) (T.ret (ford (fop BinOp.sub x.2.2 x.2.2) (some (0 : Nat)) == some Ordering.eq)) (T.ret false)) (T.ret false)
noncomputable def ref02_Finite (x : (Option Nat × Option Nat × Option Nat)) : Option (Bool) := (ref02_Finite.t x).run
noncomputable def ref02_Finite.q : List AV → T AV := entry [TV] (outR [.bool]) fun x => .opt (ref02_Finite x) .ret
theorem ref02_Finite.ok : FnOK Tryz.prog 72 ref02_Finite.q :=
  entry_call (ps := [TV]) (rs := [.bool]) (F := ({ quiet := (ext Xs 129 ref02_Number.q), deep := noDeep } : Fns)) (D := D0) (S := tabS []) (t := ref02_Finite.t) mixed (quiet_ext Xok ref02_Number.ok) (deep_none _) Tryz.func72 (by kernel_rfl) (sok_fn trivial) (by kernel_rfl) (fun x => by kernel_rfl)
end Go.Proofs.Pen

namespace Go.Proofs.Pen
open Go Go.Proofs
def ref04_Through.L0 : List (Nat × Lay) := [(2, .box TBox), (3, .box TBox), (7, .val .flt), (8, .val .flt), (9, .val .bool), (10, .val TI)]
noncomputable def ref04_Through.t0 (x : ((Option Nat × Option Nat × Option Nat) × Option Nat × Option Nat × Option Nat) × ((Option Nat × Option Nat × Option Nat) × Option Nat × Option Nat × Option Nat) × (Option Nat) × (Option Nat) × Bool × Int × Unit) : T (Ex × ((Option Nat × Option Nat × Option Nat) × Option Nat × Option Nat × Option Nat) × ((Option Nat × Option Nat × Option Nat) × Option Nat × Option Nat × Option Nat) × (Option Nat) × (Option Nat) × Bool × Int × Unit) := T.ite (decide (x.2.2.2.2.2.1 < (3 : Int)) && x.2.2.2.2.1) (T.opt (ref04_Part (x.2.1.1, x.2.2.2.2.2.1)) fun y => T.opt (ref04_Part (x.2.1.2, x.2.2.2.2.2.1)) fun y_1 => T.opt (ref04_Part (x.1.1, x.2.2.2.2.2.1)) fun y_2 => T.opt (ref04_Part (x.1.2, x.2.2.2.2.2.1)) fun y_3 => T.ite (ford y_1 (some (0 : Nat)) == some Ordering.eq) (T.ret (Ex.normal, x.1, x.2.1, x.2.2.1, x.2.2.2.1, (ford y_2 y == some Ordering.lt || ford y_2 y == some Ordering.eq) && (ford y y_3 == some Ordering.lt || ford y y_3 == some Ordering.eq), W (x.2.2.2.2.2.1 + (1 : Int)), ())) (T.ite (ford (fop BinOp.quo (some (4607182418800017408 : Nat)) y_1) (some (0 : Nat)) == some Ordering.lt) (T.opt (ref04_High (x.2.2.1, fop BinOp.mul (fop BinOp.sub y_3 y) (fop BinOp.quo (some (4607182418800017408 : Nat)) y_1))) fun y_4 => T.opt (ref04_Low (x.2.2.2.1, fop BinOp.mul (fop BinOp.sub y_2 y) (fop BinOp.quo (some (4607182418800017408 : Nat)) y_1))) fun y => T.ret (Ex.normal, x.1, x.2.1, y_4, y, x.2.2.2.2.1, W (x.2.2.2.2.2.1 + (1 : Int)), ())) (T.opt (ref04_High (x.2.2.1, fop BinOp.mul (fop BinOp.sub y_2 y) (fop BinOp.quo (some (4607182418800017408 : Nat)) y_1))) fun y_4 => T.opt (ref04_Low (x.2.2.2.1, fop BinOp.mul (fop BinOp.sub y_3 y) (fop BinOp.quo (some (4607182418800017408 : Nat)) y_1))) fun y => T.ret (Ex.normal, x.1, x.2.1, y_4, y, x.2.2.2.2.1, W (x.2.2.2.2.2.1 + (1 : Int)), ())))) (T.ret (Ex.exit (0 : Nat), x.1, x.2.1, x.2.2.1, x.2.2.2.1, x.2.2.2.2.1, x.2.2.2.2.2.1, ()))
noncomputable def ref04_Through.l0 (x : ((Option Nat × Option Nat × Option Nat) × Option Nat × Option Nat × Option Nat) × ((Option Nat × Option Nat × Option Nat) × Option Nat × Option Nat × Option Nat) × (Option Nat) × (Option Nat) × Bool × Int × Unit) : Option (Ex × ((Option Nat × Option Nat × Option Nat) × Option Nat × Option Nat × Option Nat) × ((Option Nat × Option Nat × Option Nat) × Option Nat × Option Nat × Option Nat) × (Option Nat) × (Option Nat) × Bool × Int × Unit) := (iterT ref04_Through.t0 rounds x).run
theorem ref04_Through.k0 : bodies 0 (lp Tryz.f27 []) = [.loop (loopIn 0 (lp Tryz.f27 []))] ∧ WP Tryz.prog 0 (.block 0 (.loop (loopIn 0 (lp Tryz.f27 [])))) (loopS ref04_Through.L0 98 0 [.exit 0] ref04_Through.l0) :=
  loop_tree (L := ref04_Through.L0) (F := ({ quiet := (ext (ext (ext (ext (ext Xs 71 math_Inf.q) 72 ref02_Finite.q) 59 ref04_Part.q) 73 ref04_High.q) 74 ref04_Low.q), deep := noDeep } : Fns)) (D := D0) (tab := []) (t := ref04_Through.t0) mixed (quiet_ext (quiet_ext (quiet_ext (quiet_ext (quiet_ext Xok math_Inf.ok) ref02_Finite.ok) ref04_Part.ok) ref04_High.ok) ref04_Low.ok) (deep_none _) (fun _ => rfl) (by kernel_rfl) (by kernel_rfl) trivial (fun x => by kernel_rfl)
noncomputable def ref04_Through.t (x : ((Option Nat × Option Nat × Option Nat) × Option Nat × Option Nat × Option Nat) × ((Option Nat × Option Nat × Option Nat) × Option Nat × Option Nat × Option Nat)) : T ((Option Nat) × (Option Nat) × Bool) := T.opt (math_Inf (1 : Int)) fun y => T.opt (ref02_Finite x.2.1) fun y_1 => T.ite y_1 (T.opt (ref02_Finite x.2.2) fun y_2 => T.opt (ref04_Through.l0 (x.1, x.2, some (0 : Nat), y, y_2, (0 : Int), ())) fun y => T.ite (exEq y.1 (Ex.exit (0 : Nat))) (T.ite (y.2.2.2.2.2.1 && (ford y.2.2.2.1 y.2.2.2.2.1 == some Ordering.lt || ford y.2.2.2.1 y.2.2.2.2.1 == some Ordering.eq)) (T.ret (y.2.2.2.1, y.2.2.2.2.1, true)) (T.ret (some (0 : Nat), some (0 : Nat), false))) T.fail) (T.opt (ref04_Through.l0 (x.1, x.2, some (0 : Nat), y, false, (0 : Int), ())) fun y => T.ite (exEq y.1 (Ex.exit (0 : Nat))) (T.ite (y.2.2.2.2.2.1 && (ford y.2.2.2.1 y.2.2.2.2.1 == some Ordering.lt || ford y.2.2.2.1 y.2.2.2.2.1 == some Ordering.eq)) (T.ret (y.2.2.2.1, y.2.2.2.2.1, true)) (T.ret (some (0 : Nat), some (0 : Nat), false))) T.fail)
noncomputable def ref04_Through (x : ((Option Nat × Option Nat × Option Nat) × Option Nat × Option Nat × Option Nat) × ((Option Nat × Option Nat × Option Nat) × Option Nat × Option Nat × Option Nat)) : Option ((Option Nat) × (Option Nat) × Bool) := (ref04_Through.t x).run
noncomputable def ref04_Through.q : List AV → T AV := entry [TBox, TBox] (outR [.flt, .flt, .bool]) fun x => .opt (ref04_Through x) .ret
theorem ref04_Through.ok : FnOK Tryz.prog 27 ref04_Through.q :=
  entry_call (ps := [TBox, TBox]) (rs := [.flt, .flt, .bool]) (F := ({ quiet := (ext (ext (ext (ext (ext Xs 71 math_Inf.q) 72 ref02_Finite.q) 59 ref04_Part.q) 73 ref04_High.q) 74 ref04_Low.q), deep := noDeep } : Fns)) (D := D0) (S := tabS [(0, loopS ref04_Through.L0 98 0 [.exit 0] ref04_Through.l0)]) (t := ref04_Through.t) mixed (quiet_ext (quiet_ext (quiet_ext (quiet_ext (quiet_ext Xok math_Inf.ok) ref02_Finite.ok) ref04_Part.ok) ref04_High.ok) ref04_Low.ok) (deep_none _) Tryz.func27 (by kernel_rfl) (sok_fn ⟨ref04_Through.k0, trivial⟩) (by kernel_rfl) (fun x => by kernel_rfl)
end Go.Proofs.Pen

namespace Go.Proofs.Pen
open Go Go.Proofs
end Go.Proofs.Pen

namespace Go.Proofs.Pen
open Go Go.Proofs
end Go.Proofs.Pen

namespace Go.Proofs.Pen
open Go Go.Proofs
end Go.Proofs.Pen

namespace Go.Proofs.Pen
open Go Go.Proofs
end Go.Proofs.Pen

namespace Go.Proofs.Pen
open Go Go.Proofs
end Go.Proofs.Pen

namespace Go.Proofs.Pen
open Go Go.Proofs
end Go.Proofs.Pen

namespace Go.Proofs.Pen
open Go Go.Proofs

abbrev Ht := Int × Fl × Fl × Fl

abbrev f1 : Fl := some 4607182418800017408
def vCross (a b : V3) : V3 := (fop .sub (fop .mul a.2.1 b.2.2) (fop .mul a.2.2 b.2.1), fop .sub (fop .mul a.2.2 b.1) (fop .mul a.1 b.2.2), fop .sub (fop .mul a.1 b.2.1) (fop .mul a.2.1 b.1))
def vDot (a b : V3) : Fl := fop .add (fop .add (fop .mul a.1 b.1) (fop .mul a.2.1 b.2.1)) (fop .mul a.2.2 b.2.2)
def fNum (a : Fl) : Bool := kle (some (-9218868437227405311)) (okey a) && kle (okey a) (some 9218868437227405311)
def vNum (a : V3) : Bool := fNum a.1 && fNum a.2.1 && fNum a.2.2

theorem okey_max : okey (some 9218868437227405311) = some 9218868437227405311 := okey_lit (by decide) (by decide)
theorem okey_min : okey (some 18442240474082181119) = some (-9218868437227405311) := okey_lit (by decide) (by decide)
theorem num_range (x : Fl) : ((ford x (some 18442240474082181119) == some .gt || ford x (some 18442240474082181119) == some .eq) && (ford x (some 9218868437227405311) == some .lt || ford x (some 9218868437227405311) == some .eq)) = fNum x := by
  rw [ford_ge, ford_le, okey_max, okey_min]; rfl

theorem sub_self_fin {w : Nat} (h : frung w < 9218868437227405312) : FF.sub w w = some 0 := by
  obtain ⟨m, p, e, hp, _⟩ := read_val w h
  unfold Ieee.Format.sub
  rw [e]
  simp only [Ieee.Datum.opposite, Ieee.Datum.sum]
  have hs : ∀ s : Bool, Ieee.signed s m (p - min p p).toNat + Ieee.signed (!s) m (p - min p p).toNat = 0 := fun s => by
    rw [signed_eq, signed_eq]
    cases s <;> simp only [sg, Bool.not_true, Bool.not_false, if_true, Bool.false_eq_true, if_false] <;> omega
  simp only [hs]
  cases fsgn w <;> rfl
theorem num_sub (x : Fl) : (ford (fop .sub x x) (some 0) == some .eq) = fNum x := by
  cases x with
  | none => rfl
  | some w =>
    show (ford (FF.sub w w) (some 0) == some .eq) = _
    unfold fNum
    rcases Nat.lt_trichotomy (frung w) 9218868437227405312 with h | h | h
    · rw [sub_self_fin h, okey_lit (Nat.le_of_lt h) rfl]
      unfold fkey sg kle
      rw [show (ford (some 0) (some 0) == some Ordering.eq) = true by decide +kernel]
      symm
      rw [Bool.and_eq_true, decide_eq_true_eq, decide_eq_true_eq]
      split <;> omega
    · have e : FF.sub w w = none := by
        unfold Ieee.Format.sub
        rw [read_inf w h]
        cases fsgn w <;> rfl
      rw [e, okey_lit (Nat.le_of_eq h) rfl]
      unfold fkey sg kle
      rw [h]
      cases fsgn w <;> rfl
    · obtain ⟨t, e⟩ := read_noN w h
      have e : FF.sub w w = none := by
        unfold Ieee.Format.sub
        rw [e]; rfl
      have e2 : okey (some w) = none := by simp only [okey]; rw [if_neg (by omega)]
      rw [e, e2]; rfl

theorem vec_Finite_eq (a : V3) : vec_Finite a = some (vNum a) := by
  unfold vec_Finite vec_Finite.t vNum
  simp only [tr_ite, tr_ret, num_range]
  cases fNum a.1 <;> cases fNum a.2.1 <;> rfl
theorem ref02_Finite_eq (a : V3) : ref02_Finite a = some (vNum a) := by
  unfold ref02_Finite ref02_Finite.t vNum
  simp only [tr_ite, tr_ret, num_sub]
  cases fNum a.1 <;> cases fNum a.2.1 <;> rfl

def slab (lo hi o d : Fl) (x : Fl × Fl) : Option (Fl × Fl) :=
  if feq d f0 then (if fle lo o && fle o hi then some x else none)
  else if flt (fop .quo f1 d) f0 then some (fHigh x.1 (fop .mul (fop .sub hi o) (fop .quo f1 d)), fLow x.2 (fop .mul (fop .sub lo o) (fop .quo f1 d)))
  else some (fHigh x.1 (fop .mul (fop .sub lo o) (fop .quo f1 d)), fLow x.2 (fop .mul (fop .sub hi o) (fop .quo f1 d)))
def part3 (a : V3) (k : Nat) : Fl := match k with
  | 0 => a.1
  | 1 => a.2.1
  | _ => a.2.2
def slabs (b r : Bx) (k : Nat) (x : Fl × Fl) : Option (Fl × Fl) := slab (part3 b.1 k) (part3 b.2 k) (part3 r.1 k) (part3 r.2 k) x
def thru (b r : Bx) : Option (Fl × Fl) :=
  if vNum r.1 && vNum r.2 then ((slabs b r 0 (f0, fInf)).bind (slabs b r 1)).bind fun x => (slabs b r 2 x).bind fun x => if fle x.1 x.2 then some x else none
  else none
def thr (b r : Bx) : Fl × Fl × Bool := match thru b r with
  | some x => (x.1, x.2, true)
  | none => (f0, f0, false)

theorem vec_Part3_eq (a : V3) {k : Nat} (h : k < 3) : vec_Part (a, (k : Int)) = some (part3 a k) := by
  rcases k with _ | _ | _ | k
  · rfl
  · rfl
  · rfl
  · omega
theorem ref04_Part3_eq (a : V3) {k : Nat} (h : k < 3) : ref04_Part (a, (k : Int)) = some (part3 a k) := by
  rcases k with _ | _ | _ | k
  · rfl
  · rfl
  · rfl
  · omega

theorem Through_step (b r : Bx) (n f : Fl) (q1 q2 : Fl) (q3 : Bool) {k : Nat} (h : k < 3) :
    (box_Through.t0 (b, r, q1, q2, q3, n, f, (k : Int), ())).run = some (match slabs b r k (n, f) with
      | some x => (.normal, b, r, q1, q2, q3, x.1, x.2, ((k + 1 : Nat) : Int), ())
      | none => (.ret, b, r, f0, f0, false, n, f, (k : Int), ())) := by
  unfold box_Through.t0 slabs slab
  dsimp only
  simp only [tr_ite, tr_opt, tr_ret, vec_Part3_eq _ h, Option.bind_some, box_more_eq, box_less_eq, W_succ (show k < 1000 by omega)]
  rw [if_pos (decide_eq_true (by omega))]
  by_cases h1 : feq (part3 r.2 k) f0 = true
  · rw [if_pos h1, if_pos (show (ford (part3 r.2 k) (some 0) == some Ordering.eq) = true from h1)]
    by_cases h2 : (fle (part3 b.1 k) (part3 r.1 k) && fle (part3 r.1 k) (part3 b.2 k)) = true
    · rw [if_pos h2, if_neg (by rw [Bool.not_eq_true']; intro h3; have h3 : (fle (part3 b.1 k) (part3 r.1 k) && fle (part3 r.1 k) (part3 b.2 k)) = false := h3; rw [h2] at h3; cases h3)]
    · have h3 : (fle (part3 b.1 k) (part3 r.1 k) && fle (part3 r.1 k) (part3 b.2 k)) = false := by simpa using h2
      rw [if_neg h2, if_pos (by rw [Bool.not_eq_true']; exact h3)]
  · rw [if_neg h1, if_neg (show ¬ (ford (part3 r.2 k) (some 0) == some Ordering.eq) = true from h1)]
    by_cases h2 : flt (fop .quo f1 (part3 r.2 k)) f0 = true
    · rw [if_pos h2, if_pos (show (ford (fop .quo f1 (part3 r.2 k)) (some 0) == some Ordering.lt) = true from h2)]
    · rw [if_neg h2, if_neg (show ¬ (ford (fop .quo f1 (part3 r.2 k)) (some 0) == some Ordering.lt) = true from h2)]
theorem Through_end (b r : Bx) (n f : Fl) (q1 q2 : Fl) (q3 : Bool) :
    (box_Through.t0 (b, r, q1, q2, q3, n, f, ((3 : Nat) : Int), ())).run = some (.exit 0, b, r, q1, q2, q3, n, f, ((3 : Nat) : Int), ()) := rfl

theorem box_Through_eq (b r : Bx) : box_Through (b, r) = some (thr b r) := by
  unfold box_Through box_Through.t thr thru
  simp only [tr_opt, tr_ite, tr_ret, vec_Finite_eq, Option.bind_some, math_Inf_eq, Bool.not_eq_true']
  cases hA : vNum r.1
  · simp
  cases hB : vNum r.2
  · simp
  simp only [Bool.true_and, if_true, Bool.true_eq_false, if_false]
  obtain ⟨k, hk⟩ : ∃ k, rounds = k + 4 := ⟨rounds - 4, by unfold rounds; omega⟩
  unfold box_Through.l0
  rw [hk]
  have s0 : (box_Through.t0 (b, r, some 0, some 0, false, some 0, fInf, (0 : Int), ())).run = _ := Through_step b r f0 fInf f0 f0 false (k := 0) (by omega)
  cases e0 : slabs b r 0 (f0, fInf) with
  | none =>
    rw [e0] at s0
    rw [iter_step s0]; rfl
  | some x0 =>
    rw [e0] at s0
    rw [iter_step s0]
    have s1 := Through_step b r x0.1 x0.2 f0 f0 false (k := 1) (by omega)
    simp only [Option.bind_some]
    cases e1 : slabs b r 1 x0 with
    | none =>
      rw [show ((x0.1, x0.2) : Fl × Fl) = x0 from rfl, e1] at s1
      rw [iter_step s1]; rfl
    | some x1 =>
      rw [show ((x0.1, x0.2) : Fl × Fl) = x0 from rfl, e1] at s1
      rw [iter_step s1]
      have s2 := Through_step b r x1.1 x1.2 f0 f0 false (k := 2) (by omega)
      simp only [Option.bind_some]
      cases e2 : slabs b r 2 x1 with
      | none =>
        rw [show ((x1.1, x1.2) : Fl × Fl) = x1 from rfl, e2] at s2
        rw [iter_step s2]; rfl
      | some x2 =>
        rw [show ((x1.1, x1.2) : Fl × Fl) = x1 from rfl, e2] at s2
        rw [iter_step s2, iter_step (Through_end b r x2.1 x2.2 f0 f0 false)]
        simp only [Option.bind_some]
        have hx : exEq (Ex.exit 0) (Ex.exit 0) = true := rfl
        rw [if_pos hx]
        show (if fle x2.1 x2.2 = false then _ else _) = _
        cases fle x2.1 x2.2 <;> rfl

theorem RThrough_step (b r : Bx) (n f : Fl) {k : Nat} (h : k < 3) :
    (ref04_Through.t0 (b, r, n, f, true, (k : Int), ())).run = some (match slabs b r k (n, f) with
      | some x => (.normal, b, r, x.1, x.2, true, ((k + 1 : Nat) : Int), ())
      | none => (.normal, b, r, n, f, false, ((k + 1 : Nat) : Int), ())) := by
  unfold ref04_Through.t0 slabs slab
  dsimp only
  simp only [tr_ite, tr_opt, tr_ret, ref04_Part3_eq _ h, Option.bind_some, ref04_High_eq, ref04_Low_eq, W_succ (show k < 1000 by omega)]
  rw [if_pos (by rw [Bool.and_true]; exact decide_eq_true (by omega))]
  by_cases h1 : feq (part3 r.2 k) f0 = true
  · rw [if_pos h1, if_pos (show (ford (part3 r.2 k) (some 0) == some Ordering.eq) = true from h1)]
    show some (Ex.normal, b, r, n, f, (fle (part3 b.1 k) (part3 r.1 k) && fle (part3 r.1 k) (part3 b.2 k)), ((k + 1 : Nat) : Int), ()) = _
    cases (fle (part3 b.1 k) (part3 r.1 k) && fle (part3 r.1 k) (part3 b.2 k)) <;> rfl
  · rw [if_neg h1, if_neg (show ¬ (ford (part3 r.2 k) (some 0) == some Ordering.eq) = true from h1)]
    by_cases h2 : flt (fop .quo f1 (part3 r.2 k)) f0 = true
    · rw [if_pos h2, if_pos (show (ford (fop .quo f1 (part3 r.2 k)) (some 0) == some Ordering.lt) = true from h2)]
    · rw [if_neg h2, if_neg (show ¬ (ford (fop .quo f1 (part3 r.2 k)) (some 0) == some Ordering.lt) = true from h2)]
theorem RThrough_end (b r : Bx) (n f : Fl) (ok : Bool) (k : Nat) (h : ok = false ∨ k = 3) :
    (ref04_Through.t0 (b, r, n, f, ok, (k : Int), ())).run = some (.exit 0, b, r, n, f, ok, (k : Int), ()) := by
  unfold ref04_Through.t0
  dsimp only
  rw [tr_ite, if_neg, tr_ret]
  rcases h with rfl | rfl
  · simp
  · simp

theorem ref04_Through_eq (b r : Bx) : ref04_Through (b, r) = some (thr b r) := by
  unfold ref04_Through ref04_Through.t thr thru
  simp only [tr_opt, tr_ite, tr_ret, ref02_Finite_eq, Option.bind_some, math_Inf_eq]
  have hx : exEq (Ex.exit 0) (Ex.exit 0) = true := rfl
  obtain ⟨k, hk⟩ : ∃ k, rounds = k + 4 := ⟨rounds - 4, by unfold rounds; omega⟩
  have stop : ∀ (n f : Fl) (j m : Nat), (iterT ref04_Through.t0 (m + 1) (b, r, n, f, false, (j : Int), ())).run = some (.exit 0, b, r, n, f, false, (j : Int), ()) := fun n f j m => by
    rw [iter_step (RThrough_end b r n f false j (.inl rfl))]
  have no : ref04_Through.l0 (b, r, some 0, fInf, false, 0, ()) = some (.exit 0, b, r, some 0, fInf, false, 0, ()) := by
    unfold ref04_Through.l0
    rw [hk]; exact stop f0 fInf 0 (k + 3)
  cases hA : vNum r.1
  · rw [if_neg (by simp), no]
    simp [hx]
  cases hB : vNum r.2
  · rw [if_pos rfl, no]
    simp [hx]
  rw [if_pos rfl]
  simp only [Bool.true_and, if_true]
  unfold ref04_Through.l0
  rw [hk]
  have s0 : (ref04_Through.t0 (b, r, some 0, fInf, true, (0 : Int), ())).run = _ := RThrough_step b r f0 fInf (k := 0) (by omega)
  cases e0 : slabs b r 0 (f0, fInf) with
  | none =>
    rw [e0] at s0
    rw [iter_step s0, stop]
    simp [hx]
  | some x0 =>
    rw [e0] at s0
    rw [iter_step s0]
    have s1 := RThrough_step b r x0.1 x0.2 (k := 1) (by omega)
    simp only [Option.bind_some]
    cases e1 : slabs b r 1 x0 with
    | none =>
      rw [show ((x0.1, x0.2) : Fl × Fl) = x0 from rfl, e1] at s1
      rw [iter_step s1, stop]
      simp [hx]
    | some x1 =>
      rw [show ((x0.1, x0.2) : Fl × Fl) = x0 from rfl, e1] at s1
      rw [iter_step s1]
      have s2 := RThrough_step b r x1.1 x1.2 (k := 2) (by omega)
      simp only [Option.bind_some]
      cases e2 : slabs b r 2 x1 with
      | none =>
        rw [show ((x1.1, x1.2) : Fl × Fl) = x1 from rfl, e2] at s2
        rw [iter_step s2, stop]
        simp [hx]
      | some x2 =>
        rw [show ((x1.1, x1.2) : Fl × Fl) = x1 from rfl, e2] at s2
        rw [iter_step s2, iter_step (RThrough_end b r x2.1 x2.2 true 3 (.inr rfl))]
        simp only [Option.bind_some]
        rw [if_pos hx]
        show (if fle x2.1 x2.2 = true then _ else _) = _
        cases fle x2.1 x2.2 <;> rfl

def inTri (u v t : Fl) (x : Fl × Fl) : Bool := (fge u f0 && fle u f1 && fge v f0 && fle (fop .add u v) f1) && (fge t x.1 && fle t x.2 && fgt t f0)
def meetAt (t : Tr) (r : Bx) (x : Fl × Fl) : Option V3 :=
  let e := vSub t.2.1 t.1
  let f := vSub t.2.2 t.1
  let p := vCross r.2 f
  let det := vDot e p
  if feq det f0 || !feq det det then none else
  let i := fop .quo f1 det
  let s := vSub r.1 t.1
  let q := vCross s e
  let h := fop .mul (vDot f q) i
  let u := fop .mul (vDot s p) i
  let v := fop .mul (vDot r.2 q) i
  if inTri u v h x then some (h, u, v) else none
def meet (t : Tr) (r : Bx) : Option V3 := (thru (bOf t) r).bind (meetAt t r)

end Go.Proofs.Pen

namespace Go.Proofs.Pen
open Go Go.Proofs

def hid (skip : List Int) (i : Nat) : Bool := skip.any fun a => a == (i : Int)
def ask (l : List Tr) (skip : List Int) (r : Bx) (i : Nat) : Option V3 := match l[i]? with
  | some t => if hid skip i then none else meet t r
  | none => none
def toHt : Option (Nat × V3) → Ht
  | some x => ((x.1 : Int), x.2)
  | none => (-1, f0, f0, f0)

def fwd (g : Nat → Option V3) : Nat → Option (Nat × V3)
  | 0 => none
  | k + 1 => match g k with
    | none => fwd g k
    | some h => match fwd g k with
      | none => some (k, h)
      | some b => if flt h.1 b.2.1 then some (k, h) else some b
structure Best (g : Nat → Option V3) (lo hi : Nat) (b : Option (Nat × V3)) : Prop where
  none : b = none → ∀ j, lo ≤ j → j < hi → g j = none
  some : ∀ x, b = some x → lo ≤ x.1 ∧ x.1 < hi ∧ g x.1 = Option.some x.2 ∧ ∀ j h, lo ≤ j → j < hi → g j = Option.some h → (j < x.1 → klt (okey x.2.1) (okey h.1) = true) ∧ (x.1 ≤ j → kle (okey x.2.1) (okey h.1) = true)

end Go.Proofs.Pen

namespace Go.Proofs.Pen
open Go Go.Proofs
end Go.Proofs.Pen

namespace Go.Proofs.Pen
open Go Go.Proofs
def law13_few.L0 : List (Nat × Lay) := [(0, .val (.sl TTri)), (1, .val TI), (5, .row TTri), (6, .val TI)]
noncomputable def law13_few.t0 (x : (List ((Option Nat × Option Nat × Option Nat) × (Option Nat × Option Nat × Option Nat) × Option Nat × Option Nat × Option Nat)) × Int × List ((Option Nat × Option Nat × Option Nat) × (Option Nat × Option Nat × Option Nat) × Option Nat × Option Nat × Option Nat) × Int × Unit) : T (Ex × (List ((Option Nat × Option Nat × Option Nat) × (Option Nat × Option Nat × Option Nat) × Option Nat × Option Nat × Option Nat)) × Int × List ((Option Nat × Option Nat × Option Nat) × (Option Nat × Option Nat × Option Nat) × Option Nat × Option Nat × Option Nat) × Int × Unit) := T.ite (decide (x.2.2.2.1 < (↑(List.length x.1) : Int)) && decide (x.2.2.2.1 < x.2.1)) (T.opt (lget x.1 x.2.2.2.1) fun y => T.opt (ref12_May y) fun y => T.ite y (T.opt (lget x.1 x.2.2.2.1) fun y => T.ite (decide ((x.2.2.1.length + (1 : Nat)) * nat_lit 72 ≤ most)) (T.ret (Ex.normal, x.1, x.2.1, List.take (x.2.2.1.length + (1 : Nat)) (List.take x.2.2.1.length x.2.2.1 ++ [y]), W (x.2.2.2.1 + (1 : Int)), ())) T.fail) (T.ret (Ex.normal, x.1, x.2.1, List.take x.2.2.1.length x.2.2.1, W (x.2.2.2.1 + (1 : Int)), ()))) (T.ret (Ex.exit (0 : Nat), x.1, x.2.1, List.take x.2.2.1.length x.2.2.1, x.2.2.2.1, ()))
noncomputable def law13_few.l0 (x : (List ((Option Nat × Option Nat × Option Nat) × (Option Nat × Option Nat × Option Nat) × Option Nat × Option Nat × Option Nat)) × Int × List ((Option Nat × Option Nat × Option Nat) × (Option Nat × Option Nat × Option Nat) × Option Nat × Option Nat × Option Nat) × Int × Unit) : Option (Ex × (List ((Option Nat × Option Nat × Option Nat) × (Option Nat × Option Nat × Option Nat) × Option Nat × Option Nat × Option Nat)) × Int × List ((Option Nat × Option Nat × Option Nat) × (Option Nat × Option Nat × Option Nat) × Option Nat × Option Nat × Option Nat) × Int × Unit) := (iterT law13_few.t0 rounds x).run
theorem law13_few.k0 : bodies 0 (lp Tryz.f20 []) = [.loop (loopIn 0 (lp Tryz.f20 []))] ∧ WP Tryz.prog 0 (.block 0 (.loop (loopIn 0 (lp Tryz.f20 [])))) (loopS law13_few.L0 31 0 [.exit 0] law13_few.l0) :=
  loop_tree (L := law13_few.L0) (F := ({ quiet := (ext Xs 10 ref12_May.q), deep := noDeep } : Fns)) (D := D0) (tab := []) (t := law13_few.t0) mixed (quiet_ext Xok ref12_May.ok) (deep_none _) (fun _ => rfl) (by kernel_rfl) (by kernel_rfl) trivial (fun x => by kernel_rfl)
noncomputable def law13_few.t (x : (List ((Option Nat × Option Nat × Option Nat) × (Option Nat × Option Nat × Option Nat) × Option Nat × Option Nat × Option Nat)) × Int) : T ((List ((Option Nat × Option Nat × Option Nat) × (Option Nat × Option Nat × Option Nat) × Option Nat × Option Nat × Option Nat))) := T.opt (law13_few.l0 (x.1, x.2, [], (0 : Int), ())) fun y => T.ite (exEq y.1 (Ex.exit (0 : Nat))) (T.ret (List.take y.2.2.2.1.length y.2.2.2.1)) T.fail
noncomputable def law13_few (x : (List ((Option Nat × Option Nat × Option Nat) × (Option Nat × Option Nat × Option Nat) × Option Nat × Option Nat × Option Nat)) × Int) : Option ((List ((Option Nat × Option Nat × Option Nat) × (Option Nat × Option Nat × Option Nat) × Option Nat × Option Nat × Option Nat))) := (law13_few.t x).run
noncomputable def law13_few.q : List AV → T AV := entry [(.sl TTri), TI] (outR [(.sl TTri)]) fun x => .opt (law13_few x) .ret
theorem law13_few.ok : FnOK Tryz.prog 20 law13_few.q :=
  entry_call (ps := [(.sl TTri), TI]) (rs := [(.sl TTri)]) (F := ({ quiet := (ext Xs 10 ref12_May.q), deep := noDeep } : Fns)) (D := D0) (S := tabS [(0, loopS law13_few.L0 31 0 [.exit 0] law13_few.l0)]) (t := law13_few.t) mixed (quiet_ext Xok ref12_May.ok) (deep_none _) Tryz.func20 (by kernel_rfl) (sok_fn ⟨law13_few.k0, trivial⟩) (by kernel_rfl) (fun x => by kernel_rfl)
end Go.Proofs.Pen

namespace Go.Proofs.Pen
open Go Go.Proofs

def blk (g : Nat → Option V3) (m : Fl) (i : Nat) : Bool := match g i with
  | some h => flt h.1 m
  | none => false

end Go.Proofs.Pen

namespace Go.Proofs.Pen
open Go Go.Proofs

abbrev IN : Int := 9218868437227405312
end Go.Proofs.Pen

namespace Go.Proofs.Pen
open Go Go.Proofs

structure Wider (x y : Fl × Fl) : Prop where
  ex : ∃ i j i' j', okey x.1 = some i ∧ okey x.2 = some j ∧ okey y.1 = some i' ∧ okey y.2 = some j' ∧ i' ≤ i ∧ j ≤ j'
end Go.Proofs.Pen

namespace Go.Proofs.Pen
open Go Go.Proofs

end Go.Proofs.Pen

namespace Go.Proofs.Pen
open Go Go.Proofs
theorem drop_len {α : Type} {N A B : List α} {k : Nat} (h : N.drop k = A ++ B) (hA : 0 < A.length) : k + A.length ≤ N.length := by
  have := congrArg List.length h
  rw [List.length_drop, List.length_append] at this
  omega
theorem pre_head (l : List Tr) (w : Bool) (d : Nat) (s : List Int) (n0 o0 : Nat) : ∃ nd tl, (pre l w (d + 1) s n0 o0).1 = nd :: tl ∧ nd.1 = bxs l s := by
  unfold pre
  split
  · exact ⟨_, _, rfl, rfl⟩
  · exact ⟨_, _, rfl, rfl⟩
theorem head_at {l : List Tr} {w : Bool} {d : Nat} {s : List Int} {n0 o0 : Nat} {N R : List Nd} {k : Nat} (h : N.drop k = (pre l w (d + 1) s n0 o0).1 ++ R) : ∃ nd, lget N (k : Int) = some nd ∧ nd.1 = bxs l s := by
  obtain ⟨nd, tl, e1, e2⟩ := pre_head l w d s n0 o0
  rw [e1] at h
  obtain ⟨hk, e3, _⟩ := drop_at h
  exact ⟨nd, by rw [lget_nat N hk, e3], e2⟩

end Go.Proofs.Pen

namespace Go.Proofs.Pen
open Go Go.Proofs

structure BestOf (g : Nat → Option V3) (A : Nat → Prop) (b : Option (Nat × V3)) : Prop where
  non : b = none → ∀ j, A j → g j = none
  som : ∀ x, b = some x → A x.1 ∧ g x.1 = some x.2 ∧ ∀ j h, A j → g j = some h → kx x.2.1 < kx h.1 ∨ (kx x.2.1 = kx h.1 ∧ x.1 ≤ j)
theorem BestOf.more {g : Nat → Option V3} {A B : Nat → Prop} {b : Option (Nat × V3)} (h : BestOf g A b) (hB : ∀ j, A j → B j) (hn : ∀ j, B j → A j ∨ g j = none) : BestOf g B b := by
  refine ⟨fun e j hj => ?_, fun x e => ?_⟩
  · rcases hn j hj with h1 | h1
    · exact h.non e j h1
    · exact h1
  · obtain ⟨a1, a2, a3⟩ := h.som x e
    refine ⟨hB _ a1, a2, fun j k hj hk => ?_⟩
    rcases hn j hj with h1 | h1
    · exact a3 j k h1 hk
    · rw [h1] at hk; cases hk
theorem BestOf.later {g : Nat → Option V3} {A B : Nat → Prop} {x : Nat × V3} (h : BestOf g A (some x)) (hB : ∀ j, A j → B j) (hn : ∀ j, B j → A j ∨ ∀ k, g j = some k → kx x.2.1 < kx k.1) : BestOf g B (some x) := by
  refine ⟨nofun, fun y e => ?_⟩
  cases e
  obtain ⟨a1, a2, a3⟩ := h.som x rfl
  refine ⟨hB _ a1, a2, fun j k hj hk => ?_⟩
  rcases hn j hj with h1 | h1
  · exact a3 j k h1 hk
  · exact .inl (h1 k hk)
end Go.Proofs.Pen

namespace Go.Proofs.Pen
open Go Go.Proofs

def eO (b : Option (Nat × V3)) : Fl := match b with
  | some x => x.2.1
  | none => f0
theorem Tri_eq (N : List Nd) (O : List Int) {k : Nat} (hk : k < O.length) : bvh_Tree_Tri ((N, O), (k : Int)) = some O[k] := by
  unfold bvh_Tree_Tri bvh_Tree_Tri.t
  dsimp only
  rw [tr_no (by simp), tr_no (decide_eq_false (by omega)), tr_opt, lget_nat O hk, Option.bind_some, tr_ret]
end Go.Proofs.Pen

namespace Go.Proofs.Pen
open Go Go.Proofs

theorem NodeAt (N : List Nd) (O : List Int) {k : Nat} (hk : k < N.length) : bvh_Tree_Node ((N, O), (k : Int)) = some (N[k], true) := by
  unfold bvh_Tree_Node bvh_Tree_Node.t
  dsimp only
  rw [tr_no (by simp), tr_no (by simp; omega), tr_opt, lget_nat N hk, Option.bind_some, tr_ret]
def pushed (st : List Int) (i : Int) (b r : Bx) : List Int := if (thru b r).isSome then st ++ [i] else st
theorem thr_ok (b r : Bx) : (thr b r).2.2 = (thru b r).isSome := by
  unfold thr; cases thru b r <;> rfl

section
variable (l : List Tr) (skip : List Int) (r : Bx) (z : Ht) (N : List Nd) (O : List Int)
theorem popF (st : List Int) (n0 : Nat) (hst : st.length < 900) :
    (decide (((st ++ [(n0 : Int)]).length : Int) > 0) = true) ∧ W (((st ++ [(n0 : Int)]).length : Int) - 1) = (st.length : Int) ∧ (st ++ [(n0 : Int)])[0 + Int.toNat (st.length : Int)]? = some (n0 : Int) ∧ (decide ((0 : Int) ≤ (st.length : Int)) && decide ((st.length : Int) < ((st ++ [(n0 : Int)]).length : Int))) = true ∧ (decide ((0 : Int) ≤ 0) && decide ((0 : Int) ≤ (st.length : Int)) && decide ((st.length : Int) ≤ ((st ++ [(n0 : Int)]).length : Int))) = true ∧ List.take ((st.length : Int).toNat - Int.toNat 0) (st ++ [(n0 : Int)]) = st := by
  refine ⟨decide_eq_true (by rw [List.length_append, List.length_cons, List.length_nil]; omega), ?_, ?_, by simp; omega, by simp; omega, by simp⟩
  · rw [show (((st ++ [(n0 : Int)]).length : Int) - 1) = (st.length : Int) by simp, W_id (by omega) (by omega)]
  · rw [Nat.zero_add, Int.toNat_natCast]; simp
end
end Go.Proofs.Pen

namespace Go.Proofs.Pen
open Go Go.Proofs

section
variable (l : List Tr) (skip : List Int) (r : Bx) (z : Ht) (N : List Nd) (O : List Int)
def SF (b : Option (Nat × V3)) (wait : List Int) (seen : Nat) : Ht × Ht × (List Tr × List Int × Bx) × (List Nd × List Int) × ((List Nd × List Int) × Bx × List Int × Unit) × Fl × Bool × Int × Unit := (z, toHt b, (l, skip, r), (N, O), ((N, O), r, wait, ()), eO b, b.isSome, (seen : Int), ())
structure WalkedF (s : List Int) (st1 st : List Int) (b : Option (Nat × V3)) (seen cnt : Nat) (A : Nat → Prop) : Prop where
  ex : ∃ (k : Nat) (b' : Option (Nat × V3)), k ≤ cnt ∧ BestOf (ask l skip r) (fun j => A j ∨ ∃ i ∈ s, i.toNat = j) b' ∧ ∀ m, (iterT eachFirst.t0 (m + k) (SF l skip r z N O b st1 seen)).run = (iterT eachFirst.t0 m (SF l skip r z N O b' st (seen + k))).run
end
end Go.Proofs.Pen

namespace Go.Proofs.Pen
open Go Go.Proofs

theorem tree_at (l : List Tr) (w : Bool) (hl : l.length ≤ 512) {N : List Nd} {O : List Int} (hT : treeOf l w = (N, O)) : pre l w (999 + 1) (nums l.length) 0 0 = (N, O) ∧ ∃ hk : 0 < N.length, N[0].1 = bxs l (nums l.length) := by
  have hp : pre l w (999 + 1) (nums l.length) 0 0 = (N, O) := hT
  obtain ⟨nd, h1, h2⟩ := head_at (l := l) (w := w) (d := 999) (s := nums l.length) (n0 := 0) (o0 := 0) (N := N) (R := []) (k := 0) (by rw [hp, List.append_nil]; rfl)
  have hs := pre_size l w 999 (nums l.length) 0 0 (nums_ok l) (by rw [nums_len]; omega)
  rw [hp] at hs
  have hk : 0 < N.length := hs.2.1
  refine ⟨hp, hk, ?_⟩
  rw [show ((0 : Nat) : Int) = ((0 : Nat) : Int) from rfl, lget_nat N hk] at h1
  rw [Option.some.inj h1]; exact h2
end Go.Proofs.Pen

namespace Go.Proofs.Pen
open Go Go.Proofs
noncomputable def eachVisits.deeps : Deeps := { D := [126, 127, 75], C := [], frz := false, S := fun _ _ => noS }
theorem eachVisits.deepsOk : LoopsOK Tryz.prog eachVisits.deeps.S := (loops_none _)
def eachVisits.L2 : List (Nat × Lay) := [(9000, .bdead 0), (0, .val (.ptr TTree)), (2, .val (.clo 75 .unit)), (7, .obx [.dat (.ptr TTree), .dat TBox, .own TI]), (8, .val .flt), (9, .val .bool), (10, .val TI), (11, .box TNode), (13, .val TI)]
noncomputable def eachVisits.t2 (x : ((List (((Option Nat × Option Nat × Option Nat) × Option Nat × Option Nat × Option Nat) × Int × Int × Int × Int)) × List (Int)) × Unit × (((List (((Option Nat × Option Nat × Option Nat) × Option Nat × Option Nat × Option Nat) × Int × Int × Int × Int)) × List (Int)) × ((Option Nat × Option Nat × Option Nat) × Option Nat × Option Nat × Option Nat) × List Int × Unit) × (Option Nat) × Bool × Int × (((Option Nat × Option Nat × Option Nat) × Option Nat × Option Nat × Option Nat) × Int × Int × Int × Int) × Int × Unit) : T (Ex × ((List (((Option Nat × Option Nat × Option Nat) × Option Nat × Option Nat × Option Nat) × Int × Int × Int × Int)) × List (Int)) × Unit × (((List (((Option Nat × Option Nat × Option Nat) × Option Nat × Option Nat × Option Nat) × Int × Int × Int × Int)) × List (Int)) × ((Option Nat × Option Nat × Option Nat) × Option Nat × Option Nat × Option Nat) × List Int × Unit) × (Option Nat) × Bool × Int × (((Option Nat × Option Nat × Option Nat) × Option Nat × Option Nat × Option Nat) × Int × Int × Int × Int) × Int × Unit) := T.ite (decide (x.2.2.2.2.2.2.2.1 < x.2.2.2.2.2.2.1.2.2.2.2)) (T.opt (bvh_Tree_Tri (x.1, x.2.2.2.2.2.2.2.1)) fun y => T.ret (Ex.normal, x.1, (), (x.2.2.1.1, x.2.2.1.2.1, List.take x.2.2.1.2.2.1.length x.2.2.1.2.2.1, ()), x.2.2.2.1, x.2.2.2.2.1, x.2.2.2.2.2.1, x.2.2.2.2.2.2.1, W (x.2.2.2.2.2.2.2.1 + (1 : Int)), ())) (T.ret (Ex.exit (2 : Nat), x.1, (), (x.2.2.1.1, x.2.2.1.2.1, List.take x.2.2.1.2.2.1.length x.2.2.1.2.2.1, ()), x.2.2.2.1, x.2.2.2.2.1, x.2.2.2.2.2.1, x.2.2.2.2.2.2.1, x.2.2.2.2.2.2.2.1, ()))
noncomputable def eachVisits.l2 (x : ((List (((Option Nat × Option Nat × Option Nat) × Option Nat × Option Nat × Option Nat) × Int × Int × Int × Int)) × List (Int)) × Unit × (((List (((Option Nat × Option Nat × Option Nat) × Option Nat × Option Nat × Option Nat) × Int × Int × Int × Int)) × List (Int)) × ((Option Nat × Option Nat × Option Nat) × Option Nat × Option Nat × Option Nat) × List Int × Unit) × (Option Nat) × Bool × Int × (((Option Nat × Option Nat × Option Nat) × Option Nat × Option Nat × Option Nat) × Int × Int × Int × Int) × Int × Unit) : Option (Ex × ((List (((Option Nat × Option Nat × Option Nat) × Option Nat × Option Nat × Option Nat) × Int × Int × Int × Int)) × List (Int)) × Unit × (((List (((Option Nat × Option Nat × Option Nat) × Option Nat × Option Nat × Option Nat) × Int × Int × Int × Int)) × List (Int)) × ((Option Nat × Option Nat × Option Nat) × Option Nat × Option Nat × Option Nat) × List Int × Unit) × (Option Nat) × Bool × Int × (((Option Nat × Option Nat × Option Nat) × Option Nat × Option Nat × Option Nat) × Int × Int × Int × Int) × Int × Unit) := (iterT eachVisits.t2 rounds x).run
theorem eachVisits.k2 : bodies 2 (lp Tryz.f67 [0]) = [.loop (loopIn 2 (lp Tryz.f67 [0]))] ∧ WP Tryz.prog 1 (.block 2 (.loop (loopIn 2 (lp Tryz.f67 [0])))) (loopS eachVisits.L2 71 2 [.exit 2] eachVisits.l2) :=
  loop_treeN 1 (L := eachVisits.L2) (F := (dp Tryz.prog (ext (ext (ext (ext (ext (ext (ext Xs 51 bvh_Tree_Tri.q) 13 bvh_Tree_Node.q) 176 box_Through.q) 69 tri_Better.q) 123 hit_asker_1.q) 65 hit_none.q) 212 box_Through_1.q) eachVisits.deeps 100 8)) (D := (inL eachVisits.deeps.D)) (tab := []) (t := eachVisits.t2) mixed (dp_ok mixed (quiet_ext (quiet_ext (quiet_ext (quiet_ext (quiet_ext (quiet_ext (quiet_ext Xok bvh_Tree_Tri.ok) bvh_Tree_Node.ok) box_Through.ok) tri_Better.ok) hit_asker_1.ok) hit_none.ok) box_Through_1.ok) eachVisits.deepsOk 100 8).1 (dp_ok mixed (quiet_ext (quiet_ext (quiet_ext (quiet_ext (quiet_ext (quiet_ext (quiet_ext Xok bvh_Tree_Tri.ok) bvh_Tree_Node.ok) box_Through.ok) tri_Better.ok) hit_asker_1.ok) hit_none.ok) box_Through_1.ok) eachVisits.deepsOk 100 8).2 (fun _ => rfl) (by kernel_rfl) (by kernel_rfl) trivial (fun x => by kernel_rfl)
def eachVisits.L0 : List (Nat × Lay) := [(9000, .bdead 0), (0, .val (.ptr TTree)), (2, .val (.clo 75 .unit)), (7, .obx [.dat (.ptr TTree), .dat TBox, .own TI]), (8, .val .flt), (9, .val .bool), (10, .val TI)]
noncomputable def eachVisits.t0 (x : ((List (((Option Nat × Option Nat × Option Nat) × Option Nat × Option Nat × Option Nat) × Int × Int × Int × Int)) × List (Int)) × Unit × (((List (((Option Nat × Option Nat × Option Nat) × Option Nat × Option Nat × Option Nat) × Int × Int × Int × Int)) × List (Int)) × ((Option Nat × Option Nat × Option Nat) × Option Nat × Option Nat × Option Nat) × List Int × Unit) × (Option Nat) × Bool × Int × Unit) : T (Ex × ((List (((Option Nat × Option Nat × Option Nat) × Option Nat × Option Nat × Option Nat) × Int × Int × Int × Int)) × List (Int)) × Unit × (((List (((Option Nat × Option Nat × Option Nat) × Option Nat × Option Nat × Option Nat) × Int × Int × Int × Int)) × List (Int)) × ((Option Nat × Option Nat × Option Nat) × Option Nat × Option Nat × Option Nat) × List Int × Unit) × (Option Nat) × Bool × Int × Unit) := T.ite (decide ((↑x.2.2.1.2.2.1.length : Int) > (0 : Int))) (T.ite (decide ((0 : Int) ≤ W ((↑x.2.2.1.2.2.1.length : Int) - (1 : Int))) && decide (W ((↑x.2.2.1.2.2.1.length : Int) - (1 : Int)) < (↑x.2.2.1.2.2.1.length : Int))) (T.opt x.2.2.1.2.2.1[(0 : Nat) + (W ((↑x.2.2.1.2.2.1.length : Int) - (1 : Int))).toNat]? fun y => T.ite (decide ((0 : Int) ≤ (0 : Int)) && decide ((0 : Int) ≤ W ((↑x.2.2.1.2.2.1.length : Int) - (1 : Int))) && decide (W ((↑x.2.2.1.2.2.1.length : Int) - (1 : Int)) ≤ (↑x.2.2.1.2.2.1.length : Int))) (T.opt (bvh_Tree_Node (x.2.2.1.1, y)) fun y => T.opt (box_Through (y.1.1, x.2.2.1.2.1)) fun y_1 => T.ite (x.2.2.2.2.1 && ford y_1.fst x.2.2.2.1 == some Ordering.gt) (T.ret (Ex.normal, x.1, (), (x.2.2.1.1, x.2.2.1.2.1, List.take ((W ((↑x.2.2.1.2.2.1.length : Int) - (1 : Int))).toNat - Int.toNat (0 : Int)) x.2.2.1.2.2.1, ()), x.2.2.2.1, x.2.2.2.2.1, W (x.2.2.2.2.2.1 + (1 : Int)), ())) (T.opt (eachVisits.l2 (x.1, (), (x.2.2.1.1, x.2.2.1.2.1, List.take ((W ((↑x.2.2.1.2.2.1.length : Int) - (1 : Int))).toNat - Int.toNat (0 : Int)) x.2.2.1.2.2.1, ()), x.2.2.2.1, x.2.2.2.2.1, W (x.2.2.2.2.2.1 + (1 : Int)), y.1, y.1.2.2.2.1, ())) fun y => T.ite (exEq y.1 (Ex.exit (2 : Nat))) (T.ite (decide (y.2.2.2.2.2.2.2.1.2.1 > (0 : Int))) (T.opt (bvh_Tree_Node (y.2.2.2.1.1, y.2.2.2.2.2.2.2.1.2.2.1)) fun y_2 => T.ite (!y_2.snd) (T.opt (bvh_Tree_Node (y.2.2.2.1.1, y.2.2.2.2.2.2.2.1.2.1)) fun y_3 => T.ite (!y_3.snd) (T.ret (Ex.normal, y.2.1, (), (y.2.2.2.1.1, y.2.2.2.1.2.1, List.take y.2.2.2.1.2.2.1.length y.2.2.2.1.2.2.1, ()), y.2.2.2.2.1, y.2.2.2.2.2.1, y.2.2.2.2.2.2.1, ())) (T.opt (box_Through (y_3.fst.fst, y.2.2.2.1.2.1)) fun y_4 => T.ite y_4.snd.snd (T.ite (decide ((y.2.2.2.1.2.2.1.length + (1 : Nat)) * nat_lit 8 ≤ most)) (T.ret (Ex.normal, y.2.1, (), (y.2.2.2.1.1, y.2.2.2.1.2.1, List.take (y.2.2.2.1.2.2.1.length + (1 : Nat)) (List.take y.2.2.2.1.2.2.1.length y.2.2.2.1.2.2.1 ++ [y.2.2.2.2.2.2.2.1.2.1]), ()), y.2.2.2.2.1, y.2.2.2.2.2.1, y.2.2.2.2.2.2.1, ())) T.fail) (T.ret (Ex.normal, y.2.1, (), (y.2.2.2.1.1, y.2.2.2.1.2.1, List.take y.2.2.2.1.2.2.1.length y.2.2.2.1.2.2.1, ()), y.2.2.2.2.1, y.2.2.2.2.2.1, y.2.2.2.2.2.2.1, ())))) (T.opt (box_Through (y_2.fst.fst, y.2.2.2.1.2.1)) fun y_3 => T.ite y_3.snd.snd (T.ite (decide ((y.2.2.2.1.2.2.1.length + (1 : Nat)) * nat_lit 8 ≤ most)) (T.opt (bvh_Tree_Node (y.2.2.2.1.1, y.2.2.2.2.2.2.2.1.2.1)) fun y_4 => T.ite (!y_4.snd) (T.ret (Ex.normal, y.2.1, (), (y.2.2.2.1.1, y.2.2.2.1.2.1, List.take (y.2.2.2.1.2.2.1.length + (1 : Nat)) (List.take y.2.2.2.1.2.2.1.length y.2.2.2.1.2.2.1 ++ [y.2.2.2.2.2.2.2.1.2.2.1]), ()), y.2.2.2.2.1, y.2.2.2.2.2.1, y.2.2.2.2.2.2.1, ())) (T.opt (box_Through (y_4.fst.fst, y.2.2.2.1.2.1)) fun y_5 => T.ite y_5.snd.snd (T.ite (decide ((y.2.2.2.1.2.2.1.length + (1 : Nat) + (1 : Nat)) * nat_lit 8 ≤ most)) (T.ret (Ex.normal, y.2.1, (), (y.2.2.2.1.1, y.2.2.2.1.2.1, List.take (y.2.2.2.1.2.2.1.length + (1 : Nat) + (1 : Nat)) (List.take (y.2.2.2.1.2.2.1.length + (1 : Nat)) (List.take y.2.2.2.1.2.2.1.length y.2.2.2.1.2.2.1 ++ [y.2.2.2.2.2.2.2.1.2.2.1]) ++ [y.2.2.2.2.2.2.2.1.2.1]), ()), y.2.2.2.2.1, y.2.2.2.2.2.1, y.2.2.2.2.2.2.1, ())) T.fail) (T.ret (Ex.normal, y.2.1, (), (y.2.2.2.1.1, y.2.2.2.1.2.1, List.take (y.2.2.2.1.2.2.1.length + (1 : Nat)) (List.take y.2.2.2.1.2.2.1.length y.2.2.2.1.2.2.1 ++ [y.2.2.2.2.2.2.2.1.2.2.1]), ()), y.2.2.2.2.1, y.2.2.2.2.2.1, y.2.2.2.2.2.2.1, ())))) T.fail) (T.opt (bvh_Tree_Node (y.2.2.2.1.1, y.2.2.2.2.2.2.2.1.2.1)) fun y_4 => T.ite (!y_4.snd) (T.ret (Ex.normal, y.2.1, (), (y.2.2.2.1.1, y.2.2.2.1.2.1, List.take y.2.2.2.1.2.2.1.length y.2.2.2.1.2.2.1, ()), y.2.2.2.2.1, y.2.2.2.2.2.1, y.2.2.2.2.2.2.1, ())) (T.opt (box_Through (y_4.fst.fst, y.2.2.2.1.2.1)) fun y_5 => T.ite y_5.snd.snd (T.ite (decide ((y.2.2.2.1.2.2.1.length + (1 : Nat)) * nat_lit 8 ≤ most)) (T.ret (Ex.normal, y.2.1, (), (y.2.2.2.1.1, y.2.2.2.1.2.1, List.take (y.2.2.2.1.2.2.1.length + (1 : Nat)) (List.take y.2.2.2.1.2.2.1.length y.2.2.2.1.2.2.1 ++ [y.2.2.2.2.2.2.2.1.2.1]), ()), y.2.2.2.2.1, y.2.2.2.2.2.1, y.2.2.2.2.2.2.1, ())) T.fail) (T.ret (Ex.normal, y.2.1, (), (y.2.2.2.1.1, y.2.2.2.1.2.1, List.take y.2.2.2.1.2.2.1.length y.2.2.2.1.2.2.1, ()), y.2.2.2.2.1, y.2.2.2.2.2.1, y.2.2.2.2.2.2.1, ())))))) (T.ret (Ex.normal, y.2.1, (), (y.2.2.2.1.1, y.2.2.2.1.2.1, List.take y.2.2.2.1.2.2.1.length y.2.2.2.1.2.2.1, ()), y.2.2.2.2.1, y.2.2.2.2.2.1, y.2.2.2.2.2.2.1, ()))) T.fail)) T.fail) T.fail) (T.ret (Ex.exit (0 : Nat), x.1, (), (x.2.2.1.1, x.2.2.1.2.1, List.take x.2.2.1.2.2.1.length x.2.2.1.2.2.1, ()), x.2.2.2.1, x.2.2.2.2.1, x.2.2.2.2.2.1, ()))
noncomputable def eachVisits.l0 (x : ((List (((Option Nat × Option Nat × Option Nat) × Option Nat × Option Nat × Option Nat) × Int × Int × Int × Int)) × List (Int)) × Unit × (((List (((Option Nat × Option Nat × Option Nat) × Option Nat × Option Nat × Option Nat) × Int × Int × Int × Int)) × List (Int)) × ((Option Nat × Option Nat × Option Nat) × Option Nat × Option Nat × Option Nat) × List Int × Unit) × (Option Nat) × Bool × Int × Unit) : Option (Ex × ((List (((Option Nat × Option Nat × Option Nat) × Option Nat × Option Nat × Option Nat) × Int × Int × Int × Int)) × List (Int)) × Unit × (((List (((Option Nat × Option Nat × Option Nat) × Option Nat × Option Nat × Option Nat) × Int × Int × Int × Int)) × List (Int)) × ((Option Nat × Option Nat × Option Nat) × Option Nat × Option Nat × Option Nat) × List Int × Unit) × (Option Nat) × Bool × Int × Unit) := (iterT eachVisits.t0 rounds x).run
theorem eachVisits.k0 : bodies 0 (lp Tryz.f67 []) = [.loop (loopIn 0 (lp Tryz.f67 []))] ∧ WP Tryz.prog 1 (.block 0 (.loop (loopIn 0 (lp Tryz.f67 [])))) (loopS eachVisits.L0 71 0 [.exit 0] eachVisits.l0) :=
  loop_treeN 1 (L := eachVisits.L0) (F := (dp Tryz.prog (ext (ext (ext (ext (ext (ext (ext Xs 51 bvh_Tree_Tri.q) 13 bvh_Tree_Node.q) 176 box_Through.q) 69 tri_Better.q) 123 hit_asker_1.q) 65 hit_none.q) 212 box_Through_1.q) eachVisits.deeps 100 8)) (D := (inL eachVisits.deeps.D)) (tab := [(2, loopS eachVisits.L2 71 2 [.exit 2] eachVisits.l2)]) (t := eachVisits.t0) mixed (dp_ok mixed (quiet_ext (quiet_ext (quiet_ext (quiet_ext (quiet_ext (quiet_ext (quiet_ext Xok bvh_Tree_Tri.ok) bvh_Tree_Node.ok) box_Through.ok) tri_Better.ok) hit_asker_1.ok) hit_none.ok) box_Through_1.ok) eachVisits.deepsOk 100 8).1 (dp_ok mixed (quiet_ext (quiet_ext (quiet_ext (quiet_ext (quiet_ext (quiet_ext (quiet_ext Xok bvh_Tree_Tri.ok) bvh_Tree_Node.ok) box_Through.ok) tri_Better.ok) hit_asker_1.ok) hit_none.ok) box_Through_1.ok) eachVisits.deepsOk 100 8).2 (fun _ => rfl) (by kernel_rfl) (by kernel_rfl) ⟨eachVisits.k2, trivial⟩ (fun x => by kernel_rfl)
noncomputable def eachVisits.S : List (Nat × (St → T (Ex × St))) := [(0, loopS eachVisits.L0 71 0 [.exit 0] eachVisits.l0)]
theorem eachVisits.tab : TabOK Tryz.prog 1 (codeOf Tryz.f67) eachVisits.S := ⟨eachVisits.k0, trivial⟩
end Go.Proofs.Pen

namespace Go.Proofs.Pen
open Go Go.Proofs
noncomputable def hit_Visits.deeps : Deeps := { D := [67, 126, 127, 75], C := [], frz := false, S := extSn (fun _ _ => noS) 67 1 (tabS eachVisits.S) }
theorem hit_Visits.deepsOk : LoopsOK Tryz.prog hit_Visits.deeps.S := (loops_extn (loops_none _) Tryz.func67 eachVisits.tab)
noncomputable def hit_Visits.t (x : ((List (((Option Nat × Option Nat × Option Nat) × Option Nat × Option Nat × Option Nat) × Int × Int × Int × Int)) × List (Int)) × ((Option Nat × Option Nat × Option Nat) × Option Nat × Option Nat × Option Nat)) : T (Int) := T.opt (bvh_Tree_Node (x.1, (0 : Int))) fun y => T.ite (!y.2) (T.opt (eachVisits.l0 (x.1, (), (x.1, x.2, [], ()), some (0 : Nat), false, (0 : Int), ())) fun y => T.ite (exEq y.1 (Ex.exit (0 : Nat))) (T.ret y.2.2.2.2.2.2.1) T.fail) (T.opt (box_Through (y.1.1, x.2)) fun y => T.ite y.2.2 (T.ite (decide ((1 : Nat) * nat_lit 8 ≤ most)) (T.opt (eachVisits.l0 (x.1, (), (x.1, x.2, [(0 : Int)], ()), some (0 : Nat), false, (0 : Int), ())) fun y => T.ite (exEq y.1 (Ex.exit (0 : Nat))) (T.ret y.2.2.2.2.2.2.1) T.fail) T.fail) (T.opt (eachVisits.l0 (x.1, (), (x.1, x.2, [], ()), some (0 : Nat), false, (0 : Int), ())) fun y => T.ite (exEq y.1 (Ex.exit (0 : Nat))) (T.ret y.2.2.2.2.2.2.1) T.fail))
noncomputable def hit_Visits (x : ((List (((Option Nat × Option Nat × Option Nat) × Option Nat × Option Nat × Option Nat) × Int × Int × Int × Int)) × List (Int)) × ((Option Nat × Option Nat × Option Nat) × Option Nat × Option Nat × Option Nat)) : Option (Int) := (hit_Visits.t x).run
noncomputable def hit_Visits.q : List AV → T AV := entry [(.ptr TTree), TBox] (outR [TI]) fun x => .opt (hit_Visits x) .ret
theorem hit_Visits.ok : FnOK Tryz.prog 28 hit_Visits.q :=
  entry_call (ps := [(.ptr TTree), TBox]) (rs := [TI]) (F := (dp Tryz.prog (ext (ext (ext (ext (ext (ext (ext Xs 13 bvh_Tree_Node.q) 51 bvh_Tree_Tri.q) 176 box_Through.q) 69 tri_Better.q) 123 hit_asker_1.q) 65 hit_none.q) 212 box_Through_1.q) hit_Visits.deeps 100 8)) (D := (inL hit_Visits.deeps.D)) (S := tabS []) (t := hit_Visits.t) mixed (dp_ok mixed (quiet_ext (quiet_ext (quiet_ext (quiet_ext (quiet_ext (quiet_ext (quiet_ext Xok bvh_Tree_Node.ok) bvh_Tree_Tri.ok) box_Through.ok) tri_Better.ok) hit_asker_1.ok) hit_none.ok) box_Through_1.ok) hit_Visits.deepsOk 100 8).1 (dp_ok mixed (quiet_ext (quiet_ext (quiet_ext (quiet_ext (quiet_ext (quiet_ext (quiet_ext Xok bvh_Tree_Node.ok) bvh_Tree_Tri.ok) box_Through.ok) tri_Better.ok) hit_asker_1.ok) hit_none.ok) box_Through_1.ok) hit_Visits.deepsOk 100 8).2 Tryz.func28 (by kernel_rfl) (sok_fn trivial) (by kernel_rfl) (fun x => by kernel_rfl)
end Go.Proofs.Pen

namespace Go.Proofs.Pen
open Go Go.Proofs

def cnt (l : List Tr) (w : Bool) (r : Bx) : Nat → List Int → Nat
  | 0, _ => 0
  | d + 1, s => if (thru (bxs l s) r).isSome then (if s.length ≤ 4 then 1 else 1 + cnt l w r d (parted l w s).1 + cnt l w r d (parted l w s).2) else 0
section
variable (r : Bx) (N : List Nd) (O : List Int)
def SV (wait : List Int) (seen : Nat) : (List Nd × List Int) × Unit × ((List Nd × List Int) × Bx × List Int × Unit) × Fl × Bool × Int × Unit := ((N, O), (), ((N, O), r, wait, ()), f0, false, (seen : Int), ())
theorem leafV (wait : List Int) (seen : Int) (nd : Nd) (o n : Nat) (hO : o + n < 900) (ho : o + n ≤ O.length) (hnd : nd.2.2.2.2 = ((o + n : Nat) : Int)) :
    eachVisits.l2 ((N, O), (), ((N, O), r, wait, ()), f0, false, seen, nd, (o : Int), ()) = some (.exit 2, (N, O), (), ((N, O), r, wait, ()), f0, false, seen, nd, ((o + n : Nat) : Int), ()) := by
  refine iter_count (t := eachVisits.t2) (fun k => ((N, O), (), ((N, O), r, wait, ()), f0, false, seen, nd, (k : Int), ())) (e := .exit 2) (by simp) n o rounds (fun k hk1 hk2 => ?_) ?_ (rounds_gt (by omega))
  · unfold eachVisits.t2
    dsimp only
    rw [tr_yes (by rw [hnd]; simp; omega), tr_opt, Tri_eq N O (by omega), Option.bind_some, tr_ret, W_succ (by omega), List.take_length]
  · unfold eachVisits.t2
    dsimp only
    rw [tr_no (by rw [hnd]; simp), tr_ret, List.take_length]
end
end Go.Proofs.Pen

namespace Go.Proofs.Pen
open Go Go.Proofs

section
variable (r : Bx) (N : List Nd) (O : List Int)
theorem leafStepV (st : List Int) (n0 : Nat) (seen : Nat) (s : List Int) (o : Nat) (hst : st.length < 900) (hse : seen < 900) (hn : n0 < N.length) (hO : o + s.length < 900) (ho : o + s.length ≤ O.length) (bx : Bx) (hnd : N[n0] = (bx, 0, 0, (o : Int), ((o + s.length : Nat) : Int))) :
    (eachVisits.t0 (SV r N O (st ++ [(n0 : Int)]) seen)).run = some (.normal, SV r N O st (seen + 1)) := by
  obtain ⟨p1, p2, p3, p4, p5, p6⟩ := popF st n0 hst
  have hl2 := leafV r N O st ((seen + 1 : Nat) : Int) N[n0] o s.length hO ho (by rw [hnd])
  unfold eachVisits.t0 SV
  dsimp only
  rw [tr_yes p1, p2, tr_yes p4, tr_opt, p3, Option.bind_some, tr_yes p5, tr_opt, NodeAt N O hn, Option.bind_some, tr_opt, box_Through_eq, Option.bind_some, tr_no (by rfl), tr_opt, p6, W_succ (by omega)]
  refine bind_of (y := _) (by rw [hnd] at hl2 ⊢; exact hl2) ?_
  dsimp only
  rw [tr_yes (by rfl), tr_no (by rfl), tr_ret, List.take_length]
theorem nodeStepV (st : List Int) (n0 a c : Nat) (seen : Nat) (hst : st.length < 800) (hse : seen < 900) (hn : n0 < N.length) (bx : Bx) (ha0 : 0 < a) (ha : a < N.length) (hc : c < N.length) (hnd : N[n0] = (bx, (a : Int), (c : Int), 0, 0)) :
    (eachVisits.t0 (SV r N O (st ++ [(n0 : Int)]) seen)).run = some (.normal, SV r N O (pushed (pushed st (c : Int) N[c].1 r) (a : Int) N[a].1 r) (seen + 1)) := by
  obtain ⟨p1, p2, p3, p4, p5, p6⟩ := popF st n0 (by omega)
  have hl2 := leafV r N O st ((seen + 1 : Nat) : Int) N[n0] 0 0 (by omega) (by omega) (by rw [hnd]; rfl)
  unfold eachVisits.t0 SV
  dsimp only
  rw [tr_yes p1, p2, tr_yes p4, tr_opt, p3, Option.bind_some, tr_yes p5, tr_opt, NodeAt N O hn, Option.bind_some, tr_opt, box_Through_eq, Option.bind_some, tr_no (by rfl), tr_opt, p6, W_succ (by omega)]
  refine bind_of (y := _) (by rw [hnd] at hl2 ⊢; exact hl2) ?_
  dsimp only
  rw [tr_yes (by rfl), tr_yes (by simp; omega), tr_opt, NodeAt N O hc, Option.bind_some, tr_no (by rfl), tr_opt, box_Through_eq, Option.bind_some, thr_ok]
  unfold pushed
  cases hR : (thru N[c].1 r).isSome with
  | true =>
    rw [tr_yes rfl, tr_yes (decide_eq_true (room (by omega) (by decide))), tr_opt, NodeAt N O ha, Option.bind_some, tr_no (by rfl), tr_opt, box_Through_eq, Option.bind_some, thr_ok, if_pos rfl, take_all]
    cases hA : (thru N[a].1 r).isSome with
    | true =>
      rw [tr_yes rfl, tr_yes (by unfold most; simp; omega), tr_ret, if_pos rfl, List.take_of_length_le (by simp)]
    | false => rw [tr_no rfl, tr_ret, if_neg (by simp)]
  | false =>
    rw [tr_no rfl, tr_opt, NodeAt N O ha, Option.bind_some, tr_no (by rfl), tr_opt, box_Through_eq, Option.bind_some, thr_ok, if_neg (show ¬ false = true by simp)]
    cases hA : (thru N[a].1 r).isSome with
    | true => rw [tr_yes rfl, tr_yes (decide_eq_true (room (by omega) (by decide))), tr_ret, if_pos rfl, take_all]
    | false => rw [tr_no rfl, tr_ret, if_neg (by simp), List.take_length]
end
theorem walkV (l : List Tr) (r : Bx) (N : List Nd) (O : List Int) (w : Bool) (hN : N.length < 900) (hO : O.length < 900) : ∀ (d : Nat) (s : List Int) (st : List Int) (n0 o : Nat) (seen : Nat) (rest : List Nd) (rest2 : List Int), okS l s → s.length ≤ d → st.length + s.length < 800 → seen + (pre l w (d + 1) s n0 o).1.length < 900 → N.drop n0 = (pre l w (d + 1) s n0 o).1 ++ rest → O.drop o = (pre l w (d + 1) s n0 o).2 ++ rest2 → o ≤ O.length →
    cnt l w r (d + 1) s ≤ (pre l w (d + 1) s n0 o).1.length ∧ ∀ m, (iterT eachVisits.t0 (m + cnt l w r (d + 1) s) (SV r N O (pushed st (n0 : Int) (bxs l s) r) seen)).run = (iterT eachVisits.t0 m (SV r N O st (seen + cnt l w r (d + 1) s))).run
  | d, s, st, n0, o, seen, rest, rest2, hs, hd, hst, hse, hdr, hdo, hoo => by
    have hsz := pre_size l w d s n0 o hs hd
    unfold pushed
    cases hth : (thru (bxs l s) r).isSome with
    | false =>
      have hc : cnt l w r (d + 1) s = 0 := by unfold cnt; rw [hth, if_neg (by simp)]
      rw [hc]
      exact ⟨Nat.zero_le _, fun m => rfl⟩
    | true =>
      rw [if_pos rfl]
      by_cases h4 : s.length ≤ 4
      · have hc : cnt l w r (d + 1) s = 1 := by unfold cnt; rw [hth, if_pos rfl, if_pos h4]
        have hp : pre l w (d + 1) s n0 o = ([(bxs l s, 0, 0, (o : Int), ((o + s.length : Nat) : Int))], insS lessI s) := by unfold pre; rw [if_pos h4]
        have hlen : (insS lessI s).length = s.length := (insS_perm _ s).length_eq
        rw [hp] at hdr hdo hse ⊢
        rw [hc]
        obtain ⟨hk, hnd, _⟩ := drop_at (A := []) hdr
        have hol : o + s.length ≤ O.length := by
          rcases Nat.eq_zero_or_pos s.length with h0 | h0
          · omega
          · have := drop_len (A := insS lessI s) hdo (by omega); omega
        exact ⟨Nat.le_refl _, fun m => iter_step (leafStepV r N O st n0 seen s o (by omega) (by simp at hse; omega) hk (by omega) hol _ hnd)⟩
      · cases d with
        | zero => omega
        | succ d =>
          obtain ⟨p1, p2, p3, p4, p5⟩ := parted_ok w hs (by omega)
          have q3 := List.length_pos_iff.2 p3
          have q4 := List.length_pos_iff.2 p4
          have hc : cnt l w r (d + 1 + 1) s = 1 + cnt l w r (d + 1) (parted l w s).1 + cnt l w r (d + 1) (parted l w s).2 := by
            show (if (thru (bxs l s) r).isSome then (if s.length ≤ 4 then 1 else _) else 0) = _
            rw [hth, if_pos rfl, if_neg h4]
          obtain ⟨a1, a2, _, _⟩ := pre_size l w d (parted l w s).1 (n0 + 1) o p1 (by omega)
          obtain ⟨b1, b2, _, _⟩ := pre_size l w d (parted l w s).2 (n0 + 1 + (pre l w (d + 1) (parted l w s).1 (n0 + 1) o).1.length) (o + (pre l w (d + 1) (parted l w s).1 (n0 + 1) o).2.length) p2 (by omega)
          have hp : pre l w (d + 1 + 1) s n0 o = ((bxs l s, ((n0 + 1 : Nat) : Int), ((n0 + 1 + (pre l w (d + 1) (parted l w s).1 (n0 + 1) o).1.length : Nat) : Int), 0, 0) :: ((pre l w (d + 1) (parted l w s).1 (n0 + 1) o).1 ++ (pre l w (d + 1) (parted l w s).2 (n0 + 1 + (pre l w (d + 1) (parted l w s).1 (n0 + 1) o).1.length) (o + (pre l w (d + 1) (parted l w s).1 (n0 + 1) o).2.length)).1), (pre l w (d + 1) (parted l w s).1 (n0 + 1) o).2 ++ (pre l w (d + 1) (parted l w s).2 (n0 + 1 + (pre l w (d + 1) (parted l w s).1 (n0 + 1) o).1.length) (o + (pre l w (d + 1) (parted l w s).1 (n0 + 1) o).2.length)).2) := by
            show (if s.length ≤ 4 then _ else _) = _
            rw [if_neg h4]
          rw [hp] at hdr hdo hse ⊢
          have i1 := fun st seen => walkV l r N O w hN hO d (parted l w s).1 st (n0 + 1) o seen ((pre l w (d + 1) (parted l w s).2 (n0 + 1 + (pre l w (d + 1) (parted l w s).1 (n0 + 1) o).1.length) (o + (pre l w (d + 1) (parted l w s).1 (n0 + 1) o).2.length)).1 ++ rest) ((pre l w (d + 1) (parted l w s).2 (n0 + 1 + (pre l w (d + 1) (parted l w s).1 (n0 + 1) o).1.length) (o + (pre l w (d + 1) (parted l w s).1 (n0 + 1) o).2.length)).2 ++ rest2) p1 (by omega)
          have i2 := fun st seen => walkV l r N O w hN hO d (parted l w s).2 st (n0 + 1 + (pre l w (d + 1) (parted l w s).1 (n0 + 1) o).1.length) (o + (pre l w (d + 1) (parted l w s).1 (n0 + 1) o).2.length) seen rest rest2 p2 (by omega)
          have hh1 := fun R k (h : N.drop k = _ ++ R) => head_at (l := l) (w := w) (d := d) (s := (parted l w s).1) (n0 := n0 + 1) (o0 := o) h
          have hh2 := fun R k (h : N.drop k = _ ++ R) => head_at (l := l) (w := w) (d := d) (s := (parted l w s).2) (n0 := n0 + 1 + (pre l w (d + 1) (parted l w s).1 (n0 + 1) o).1.length) (o0 := o + (pre l w (d + 1) (parted l w s).1 (n0 + 1) o).2.length) h
          clear hp hsz
          rw [hc]
          generalize pre l w (d + 1) (parted l w s).2 (n0 + 1 + (pre l w (d + 1) (parted l w s).1 (n0 + 1) o).1.length) (o + (pre l w (d + 1) (parted l w s).1 (n0 + 1) o).2.length) = Y at *
          generalize pre l w (d + 1) (parted l w s).1 (n0 + 1) o = X at *
          obtain ⟨hk, hnd, hdr1⟩ := drop_at (A := X.1 ++ Y.1) hdr
          rw [List.append_assoc] at hdr1 hdo
          have hdr2 := drop_more hdr1
          have hdo2 := drop_more hdo
          have hnl := drop_len hdr2 (by omega)
          have hol := drop_len hdo (by omega)
          obtain ⟨n1, g1, g2⟩ := hh1 _ _ hdr1
          obtain ⟨n2, g3, g4⟩ := hh2 _ _ hdr2
          rw [lget_nat N (by omega)] at g1 g3
          have g1 := Option.some.inj g1
          have g3 := Option.some.inj g3
          simp only [List.length_cons, List.length_append] at hse ⊢
          have hs1 := nodeStepV r N O st n0 (n0 + 1) (n0 + 1 + X.1.length) seen (by omega) (by omega) hk _ (by omega) (by omega) (by omega) hnd
          rw [g1, g3, g2, g4] at hs1
          have hstl : (pushed st ((n0 + 1 + X.1.length : Nat) : Int) (bxs l (parted l w s).2) r).length ≤ st.length + 1 := by unfold pushed; split <;> simp
          obtain ⟨w1, w2⟩ := i1 (pushed st ((n0 + 1 + X.1.length : Nat) : Int) (bxs l (parted l w s).2) r) (seen + 1) (by omega) (by omega) hdr1 hdo hoo
          generalize cnt l w r (d + 1) (parted l w s).1 = k1 at *
          obtain ⟨v1, v2⟩ := i2 st (seen + 1 + k1) (by omega) (by omega) hdr2 hdo2 (by omega)
          generalize cnt l w r (d + 1) (parted l w s).2 = k2 at *
          refine ⟨by omega, fun m => ?_⟩
          have e1 : m + (1 + k1 + k2) = m + k2 + k1 + 1 := by omega
          have e2 : seen + (1 + k1 + k2) = seen + 1 + k1 + k2 := by omega
          rw [e1, e2]
          exact (iter_step hs1).trans ((w2 (m + k2)).trans (v2 m))
end Go.Proofs.Pen
