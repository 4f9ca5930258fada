/- A part of the proof that the law HitVisits is true of every input: models of the functions that the law reaches, and what holds of them. -/
import Derived.Test.YtncgifjccpngfaaGreatPenKit0
import Derived.Test.YtncgifjccpngfaaGreatPenKit1
import Derived.Test.YtncgifjccpngfaaGreatPenKit2
import Derived.Test.YtncgifjccpngfaaGreatPenKit3
import Derived.Test.YtncgifjccpngfaaGreatPenHitVisits4
import Derived.Test.YtncgifjccpngfaaGreatPenKit5
import Derived.Test.YtncgifjccpngfaaGreatPenHitVisits6
import Derived.Test.YtncgifjccpngfaaGreatPenHitVisits7
import Derived.Test.YtncgifjccpngfaaGreatPenKit8
namespace Go.Proofs.Pen
open Go Go.Proofs
noncomputable def hitNil.F : Fns := peT Tryz.prog (ext (ext Xs 65 hit_none.q) 66 hit_asker.q) [65, 66] tb 40 12
theorem hitNil.Fok : QuietOK Tryz.prog hitNil.F.quiet ∧ DeepOK Tryz.prog hitNil.F.deep := peT_ok mixed (quiet_ext (quiet_ext Xok hit_none.ok) hit_asker.ok) [65, 66] tbOk 40 12
noncomputable def VisitsNil.t (_ : dens [TBox]) : T (dens [TI]) := T.ite (decide ((0 : Int) > 0)) T.fail (T.ret (0 : Int))
noncomputable def VisitsNil.q : List AV → T AV := entryNil [TBox] (outR [TI]) VisitsNil.t
theorem VisitsNil.ok : FnOK Tryz.prog 28 VisitsNil.q :=
  entry_nil (ps := [TBox]) (rs := [TI]) (F := hitNil.F) (D := fun h => !inL [65, 66] h && callable Tryz.prog h) (S := noS) mixed hitNil.Fok.1 hitNil.Fok.2 Tryz.func28 (by kernel_rfl) (fun c _ => sok_none _ 0 c) (by kernel_rfl) (fun x => by kernel_rfl)
noncomputable def FirstNil.t (_ : dens [(.sl TTri), TBox, (.sl TI)]) : T (dens [THit]) := T.ite (decide ((0 : Int) > 0)) T.fail (T.ret ((-1 : Int), (some 0 : Option Nat), (some 0 : Option Nat), (some 0 : Option Nat)))
noncomputable def FirstNil.q : List AV → T AV := entryNil [(.sl TTri), TBox, (.sl TI)] (outR [THit]) FirstNil.t
theorem FirstNil.ok : FnOK Tryz.prog 25 FirstNil.q :=
  entry_nil (ps := [(.sl TTri), TBox, (.sl TI)]) (rs := [THit]) (F := hitNil.F) (D := fun h => !inL [65, 66] h && callable Tryz.prog h) (S := noS) mixed hitNil.Fok.1 hitNil.Fok.2 Tryz.func25 (by kernel_rfl) (fun c _ => sok_none _ 0 c) (by kernel_rfl) (fun x => by kernel_rfl)
noncomputable def AnyNil.t (_ : dens [(.sl TTri), TBox, .flt, (.sl TI)]) : T (dens [.bool]) := T.ite (decide ((0 : Int) > 0)) T.fail (T.ret false)
noncomputable def AnyNil.q : List AV → T AV := entryNil [(.sl TTri), TBox, .flt, (.sl TI)] (outR [.bool]) AnyNil.t
theorem AnyNil.ok : FnOK Tryz.prog 26 AnyNil.q :=
  entry_nil (ps := [(.sl TTri), TBox, .flt, (.sl TI)]) (rs := [.bool]) (F := hitNil.F) (D := fun h => !inL [65, 66] h && callable Tryz.prog h) (S := noS) mixed hitNil.Fok.1 hitNil.Fok.2 Tryz.func26 (by kernel_rfl) (fun c _ => sok_none _ 0 c) (by kernel_rfl) (fun x => by kernel_rfl)
end Go.Proofs.Pen

namespace Go.Proofs.Pen
open Go Go.Proofs
set_option maxRecDepth 100000
noncomputable def law13_awake.tabl : DTab := (tbExt tb 8 (freshD bvh_New.q))
theorem law13_awake.tablOk : TBOK Tryz.prog law13_awake.tabl := (tb_ext tbOk (fresh_deep bvh_New.okF))
noncomputable def law13_awake.q : List AV → T AV := entry [] (outR [.bool]) fun _ => .ret (true : dens [.bool])
theorem law13_awake.ok : FnOK Tryz.prog 24 law13_awake.q := peT_entry mixed (quiet_ext (quiet_ext (quiet_ext (quiet_ext (quiet_ext Xok hit_Scan.ok) hit_First.ok) hit_Any.ok) hit_Visits.ok) bvh_New.ok) [30, 25, 26, 28] law13_awake.tablOk 300 40 Tryz.func24 (by kernel_rfl) (by kernel_rfl)
end Go.Proofs.Pen

namespace Go.Proofs.Pen
open Go Go.Proofs
def law13_HitVisits.L0 : List (Nat × Lay) := [(0, .val (.sl TTri)), (4, .box TBox), (7, .val (.ptr TTree)), (9, .val (.sl TNode)), (10, .row .bool), (11, .val TI), (12, .val TI)]
noncomputable def law13_HitVisits.t0 (x : (List ((Option Nat × Option Nat × Option Nat) × (Option Nat × Option Nat × Option Nat) × Option Nat × Option Nat × Option Nat)) × ((Option Nat × Option Nat × Option Nat) × Option Nat × Option Nat × Option Nat) × ((List (((Option Nat × Option Nat × Option Nat) × Option Nat × Option Nat × Option Nat) × Int × Int × Int × Int)) × List (Int)) × (List (((Option Nat × Option Nat × Option Nat) × Option Nat × Option Nat × Option Nat) × Int × Int × Int × Int)) × List Bool × Int × Int × Unit) : T (Ex × (List ((Option Nat × Option Nat × Option Nat) × (Option Nat × Option Nat × Option Nat) × Option Nat × Option Nat × Option Nat)) × ((Option Nat × Option Nat × Option Nat) × Option Nat × Option Nat × Option Nat) × ((List (((Option Nat × Option Nat × Option Nat) × Option Nat × Option Nat × Option Nat) × Int × Int × Int × Int)) × List (Int)) × (List (((Option Nat × Option Nat × Option Nat) × Option Nat × Option Nat × Option Nat) × Int × Int × Int × Int)) × List Bool × Int × Int × Unit) := T.ite (decide (x.2.2.2.2.2.2.1 < (↑(List.length x.2.2.2.1) : Int))) (T.opt (lget x.2.2.2.1 x.2.2.2.2.2.2.1) fun y => T.opt (ref04_Through (y.1, x.2.1)) fun y => T.ite (decide ((0 : Int) ≤ x.2.2.2.2.2.2.1) && decide (x.2.2.2.2.2.2.1 < (↑x.2.2.2.2.1.length : Int))) (T.opt x.2.2.2.2.1[(0 : Nat) + Int.toNat x.2.2.2.2.2.2.1]? fun y_1 => T.ite (!y_1 || !y.2.2) (T.ret (Ex.normal, x.1, x.2.1, x.2.2.1, x.2.2.2.1, List.take x.2.2.2.2.1.length x.2.2.2.2.1, x.2.2.2.2.2.1, W (x.2.2.2.2.2.2.1 + (1 : Int)), ())) (T.opt (lget x.2.2.2.1 x.2.2.2.2.2.2.1) fun y => T.ite (decide (y.2.1 > (0 : Int))) (T.opt (lget x.2.2.2.1 x.2.2.2.2.2.2.1) fun y => T.ite (decide (y.2.1 < (↑(List.length x.2.2.2.1) : Int))) (T.opt (lget x.2.2.2.1 x.2.2.2.2.2.2.1) fun y => T.ite (decide (y.2.2.1 < (↑(List.length x.2.2.2.1) : Int))) (T.opt (lget x.2.2.2.1 x.2.2.2.2.2.2.1) fun y => T.ite (decide ((0 : Int) ≤ y.2.1) && decide (y.2.1 < (↑x.2.2.2.2.1.length : Int))) (T.opt x.2.2.2.2.1[(0 : Nat) + Int.toNat y.2.1]? fun y_2 => T.opt (lget x.2.2.2.1 x.2.2.2.2.2.2.1) fun y_3 => T.ite (decide ((0 : Int) ≤ y_3.snd.snd.fst) && decide (y_3.snd.snd.fst < (↑x.2.2.2.2.1.length : Int))) (T.opt (x.2.2.2.2.1.set ((0 : Nat) + Int.toNat y.2.1) true)[(0 : Nat) + Int.toNat y_3.snd.snd.fst]? fun y_4 => T.ret (Ex.normal, x.1, x.2.1, x.2.2.1, x.2.2.2.1, List.take x.2.2.2.2.1.length ((x.2.2.2.2.1.set ((0 : Nat) + Int.toNat y.2.1) true).set ((0 : Nat) + Int.toNat y_3.snd.snd.fst) true), W (x.2.2.2.2.2.1 + (1 : Int)), W (x.2.2.2.2.2.2.1 + (1 : Int)), ())) T.fail) T.fail) (T.ret (Ex.normal, x.1, x.2.1, x.2.2.1, x.2.2.2.1, List.take x.2.2.2.2.1.length x.2.2.2.2.1, W (x.2.2.2.2.2.1 + (1 : Int)), W (x.2.2.2.2.2.2.1 + (1 : Int)), ()))) (T.ret (Ex.normal, x.1, x.2.1, x.2.2.1, x.2.2.2.1, List.take x.2.2.2.2.1.length x.2.2.2.2.1, W (x.2.2.2.2.2.1 + (1 : Int)), W (x.2.2.2.2.2.2.1 + (1 : Int)), ()))) (T.ret (Ex.normal, x.1, x.2.1, x.2.2.1, x.2.2.2.1, List.take x.2.2.2.2.1.length x.2.2.2.2.1, W (x.2.2.2.2.2.1 + (1 : Int)), W (x.2.2.2.2.2.2.1 + (1 : Int)), ())))) T.fail) (T.ret (Ex.exit (0 : Nat), x.1, x.2.1, x.2.2.1, x.2.2.2.1, List.take x.2.2.2.2.1.length x.2.2.2.2.1, x.2.2.2.2.2.1, x.2.2.2.2.2.2.1, ()))
noncomputable def law13_HitVisits.l0 (x : (List ((Option Nat × Option Nat × Option Nat) × (Option Nat × Option Nat × Option Nat) × Option Nat × Option Nat × Option Nat)) × ((Option Nat × Option Nat × Option Nat) × Option Nat × Option Nat × Option Nat) × ((List (((Option Nat × Option Nat × Option Nat) × Option Nat × Option Nat × Option Nat) × Int × Int × Int × Int)) × List (Int)) × (List (((Option Nat × Option Nat × Option Nat) × Option Nat × Option Nat × Option Nat) × Int × Int × Int × Int)) × List Bool × Int × Int × Unit) : Option (Ex × (List ((Option Nat × Option Nat × Option Nat) × (Option Nat × Option Nat × Option Nat) × Option Nat × Option Nat × Option Nat)) × ((Option Nat × Option Nat × Option Nat) × Option Nat × Option Nat × Option Nat) × ((List (((Option Nat × Option Nat × Option Nat) × Option Nat × Option Nat × Option Nat) × Int × Int × Int × Int)) × List (Int)) × (List (((Option Nat × Option Nat × Option Nat) × Option Nat × Option Nat × Option Nat) × Int × Int × Int × Int)) × List Bool × Int × Int × Unit) := (iterT law13_HitVisits.t0 rounds x).run
theorem law13_HitVisits.k0 : bodies 0 (lp Tryz.f5 []) = [.loop (loopIn 0 (lp Tryz.f5 []))] ∧ WP Tryz.prog 0 (.block 0 (.loop (loopIn 0 (lp Tryz.f5 [])))) (loopS law13_HitVisits.L0 135 0 [.exit 0] law13_HitVisits.l0) :=
  loop_tree (L := law13_HitVisits.L0) (F := ({ quiet := (extOr (extOr (extOr (ext (ext (ext (ext (ext (ext (ext (ext (ext (ext (ext (ext (ext (ext Xs 20 law13_few.q) 8 bvh_New.q) 12 bvh_Tree_Nodes.q) 27 ref04_Through.q) 24 law13_awake.q) 28 hit_Visits.q) 25 hit_First.q) 26 hit_Any.q) 123 hit_asker_1.q) 151 vec_Sub_1.q) 163 vec_Add_1.q) 179 tri_Meet_1.q) 192 vec_Mul_1.q) 212 box_Through_1.q) 28 isNil1 VisitsNil.q) 25 isNil1 FirstNil.q) 26 isNil1 AnyNil.q), deep := noDeep } : Fns)) (D := D0) (tab := []) (t := law13_HitVisits.t0) mixed (quiet_extOr (quiet_extOr (quiet_extOr (quiet_ext (quiet_ext (quiet_ext (quiet_ext (quiet_ext (quiet_ext (quiet_ext (quiet_ext (quiet_ext (quiet_ext (quiet_ext (quiet_ext (quiet_ext (quiet_ext Xok law13_few.ok) bvh_New.ok) bvh_Tree_Nodes.ok) ref04_Through.ok) law13_awake.ok) hit_Visits.ok) hit_First.ok) hit_Any.ok) hit_asker_1.ok) vec_Sub_1.ok) vec_Add_1.ok) tri_Meet_1.ok) vec_Mul_1.ok) box_Through_1.ok) VisitsNil.ok) FirstNil.ok) AnyNil.ok) (deep_none _) (fun _ => rfl) (by kernel_rfl) (by kernel_rfl) trivial (fun x => by kernel_rfl)
noncomputable def law13_HitVisits.t (x : (List ((Option Nat × Option Nat × Option Nat) × (Option Nat × Option Nat × Option Nat) × Option Nat × Option Nat × Option Nat)) × ((Option Nat × Option Nat × Option Nat) × Option Nat × Option Nat × Option Nat) × Bool) : T (Bool) := T.opt (law13_few (x.1, (100 : Int))) fun y => T.opt (bvh_New (y, x.2.2)) fun y_1 => T.ite y_1.fst.isNone (T.ret false) (T.opt y_1.fst fun y_2 => T.ite (y_1.snd != (0 : Int)) (T.ret false) (T.opt (bvh_Tree_Nodes y_2) fun y_3 => T.ite (decide ((0 : Int) ≤ (↑y_3.length : Int)) && decide ((↑y_3.length : Int) ≤ (↑y_3.length : Int)) && decide ((↑y_3.length : Int) * (↑(nat_lit 1) : Int) ≤ (↑most : Int)) && decide ((↑y_3.length : Int) ≤ (↑most : Int))) (T.ite (decide ((0 : Int) ≤ (0 : Int)) && decide ((0 : Int) < (↑(↑y_3.length : Int).toNat : Int))) (T.opt (List.replicate (↑y_3.length : Int).toNat false)[(0 : Nat) + Int.toNat (0 : Int)]? fun y_4 => T.opt (law13_HitVisits.l0 (y, x.2.1, y_2, y_3, List.take (↑y_3.length : Int).toNat ((List.replicate (↑y_3.length : Int).toNat false).set ((0 : Nat) + Int.toNat (0 : Int)) true), (0 : Int), (0 : Int), ())) fun y => T.ite (exEq y.1 (Ex.exit (0 : Nat))) (T.ite true (T.opt (hit_Visits (y.2.2.2.1, y.2.2.1)) fun y_5 => T.ite (y_5 == y.2.2.2.2.2.2.1) (T.ite (decide ((0 : Int) > (0 : Int))) T.fail (T.ite ((-1 : Int) == (-1 : Int) && (ford (some (0 : Nat)) (some (0 : Nat)) == some Ordering.eq && (ford (some (0 : Nat)) (some (0 : Nat)) == some Ordering.eq && ford (some (0 : Nat)) (some (0 : Nat)) == some Ordering.eq))) (T.ite (decide ((0 : Int) > (0 : Int))) T.fail (T.ite true (T.ite (decide ((0 : Int) > (0 : Int))) T.fail (T.ret ((0 : Int) == (0 : Int)))) (T.ret false))) (T.ret false))) (T.ret false)) (T.ret false)) T.fail) T.fail) T.fail))
noncomputable def law13_HitVisits (x : (List ((Option Nat × Option Nat × Option Nat) × (Option Nat × Option Nat × Option Nat) × Option Nat × Option Nat × Option Nat)) × ((Option Nat × Option Nat × Option Nat) × Option Nat × Option Nat × Option Nat) × Bool) : Option (Bool) := (law13_HitVisits.t x).run
noncomputable def law13_HitVisits.q : List AV → T AV := entry [(.sl TTri), TBox, .bool] (outR [.bool]) fun x => .opt (law13_HitVisits x) .ret
theorem law13_HitVisits.ok : FnOK Tryz.prog 5 law13_HitVisits.q :=
  entry_call (ps := [(.sl TTri), TBox, .bool]) (rs := [.bool]) (F := ({ quiet := (extOr (extOr (extOr (ext (ext (ext (ext (ext (ext (ext (ext (ext (ext (ext (ext (ext (ext Xs 20 law13_few.q) 8 bvh_New.q) 12 bvh_Tree_Nodes.q) 27 ref04_Through.q) 24 law13_awake.q) 28 hit_Visits.q) 25 hit_First.q) 26 hit_Any.q) 123 hit_asker_1.q) 151 vec_Sub_1.q) 163 vec_Add_1.q) 179 tri_Meet_1.q) 192 vec_Mul_1.q) 212 box_Through_1.q) 28 isNil1 VisitsNil.q) 25 isNil1 FirstNil.q) 26 isNil1 AnyNil.q), deep := noDeep } : Fns)) (D := D0) (S := tabS [(0, loopS law13_HitVisits.L0 135 0 [.exit 0] law13_HitVisits.l0)]) (t := law13_HitVisits.t) mixed (quiet_extOr (quiet_extOr (quiet_extOr (quiet_ext (quiet_ext (quiet_ext (quiet_ext (quiet_ext (quiet_ext (quiet_ext (quiet_ext (quiet_ext (quiet_ext (quiet_ext (quiet_ext (quiet_ext (quiet_ext Xok law13_few.ok) bvh_New.ok) bvh_Tree_Nodes.ok) ref04_Through.ok) law13_awake.ok) hit_Visits.ok) hit_First.ok) hit_Any.ok) hit_asker_1.ok) vec_Sub_1.ok) vec_Add_1.ok) tri_Meet_1.ok) vec_Mul_1.ok) box_Through_1.ok) VisitsNil.ok) FirstNil.ok) AnyNil.ok) (deep_none _) Tryz.func5 (by kernel_rfl) (sok_fn ⟨law13_HitVisits.k0, trivial⟩) (by kernel_rfl) (fun x => by kernel_rfl)
end Go.Proofs.Pen

namespace Go.Proofs.Pen
open Go Go.Proofs

def SW (l : List Tr) (r : Bx) (T : List Nd × List Int) (N : List Nd) (A : List Bool) (want i : Nat) : List Tr × Bx × (List Nd × List Int) × List Nd × List Bool × Int × Int × Unit := (l, r, T, N, A, (want : Int), (i : Int), ())
section
variable (l : List Tr) (r : Bx) (T : List Nd × List Int) (N : List Nd)
theorem lawStep0 (A : List Bool) (want i : Nat) (hi : i < N.length) (hA : A.length = N.length) (hN : N.length < 900) (h : (A[i]'(by omega) && (thru N[i].1 r).isSome) = false) : (law13_HitVisits.t0 (SW l r T N A want i)).run = some (.normal, SW l r T N A want (i + 1)) := by
  have hg : A[0 + Int.toNat (i : Int)]? = some (A[i]'(by omega)) := by rw [Nat.zero_add, Int.toNat_natCast, List.getElem?_eq_getElem]
  unfold law13_HitVisits.t0 SW
  dsimp only
  rw [tr_yes (by simp; omega), tr_opt, lget_nat N hi, Option.bind_some, tr_opt, ref04_Through_eq, Option.bind_some, tr_yes (by simp; omega), tr_opt, hg, Option.bind_some, thr_ok, W_succ (by omega), List.take_length]
  rw [tr_yes (by rw [Bool.and_eq_false_iff] at h; rcases h with h | h <;> rw [h] <;> simp), tr_ret]
theorem lawLeaf (A : List Bool) (want i : Nat) (hi : i < N.length) (hA : A.length = N.length) (hN : N.length < 900) (hw : want < 900) (h : (A[i]'(by omega) && (thru N[i].1 r).isSome) = true) (h0 : N[i].2.1 = 0) : (law13_HitVisits.t0 (SW l r T N A want i)).run = some (.normal, SW l r T N A (want + 1) (i + 1)) := by
  have hg : A[0 + Int.toNat (i : Int)]? = some (A[i]'(by omega)) := by rw [Nat.zero_add, Int.toNat_natCast, List.getElem?_eq_getElem]
  rw [Bool.and_eq_true] at h
  unfold law13_HitVisits.t0 SW
  dsimp only
  rw [tr_yes (by simp; omega), tr_opt, lget_nat N hi, Option.bind_some, tr_opt, ref04_Through_eq, Option.bind_some, tr_yes (by simp; omega), tr_opt, hg, Option.bind_some, thr_ok, W_succ (by omega), W_succ (by omega), List.take_length, tr_no (by rw [h.1, h.2]; rfl), tr_opt, Option.bind_some, tr_no (by rw [h0]; rfl), tr_ret]
theorem lawNode (A : List Bool) (want i a c : Nat) (hi : i < N.length) (hA : A.length = N.length) (hN : N.length < 900) (hw : want < 900) (h : (A[i]'(by omega) && (thru N[i].1 r).isSome) = true) (ha0 : 0 < a) (ha : a < N.length) (hc : c < N.length) (h1 : N[i].2.1 = (a : Int)) (h2 : N[i].2.2.1 = (c : Int)) : (law13_HitVisits.t0 (SW l r T N A want i)).run = some (.normal, SW l r T N ((A.set a true).set c true) (want + 1) (i + 1)) := by
  have hg : A[0 + Int.toNat (i : Int)]? = some (A[i]'(by omega)) := by rw [Nat.zero_add, Int.toNat_natCast, List.getElem?_eq_getElem]
  have ga : A[0 + Int.toNat (a : Int)]? = some (A[a]'(by omega)) := by rw [Nat.zero_add, Int.toNat_natCast, List.getElem?_eq_getElem]
  have gc : (A.set (0 + Int.toNat (a : Int)) true)[0 + Int.toNat (c : Int)]? = some ((A.set (0 + Int.toNat (a : Int)) true)[c]'(by rw [List.length_set]; omega)) := by rw [Nat.zero_add, Int.toNat_natCast, Nat.zero_add, Int.toNat_natCast, List.getElem?_eq_getElem]
  rw [Bool.and_eq_true] at h
  unfold law13_HitVisits.t0 SW
  dsimp only
  rw [tr_yes (by simp; omega), tr_opt, lget_nat N hi, Option.bind_some, tr_opt, ref04_Through_eq, Option.bind_some, tr_yes (by simp; omega), tr_opt, hg, Option.bind_some, thr_ok, W_succ (by omega), W_succ (by omega), tr_no (by rw [h.1, h.2]; rfl), tr_opt, Option.bind_some, tr_yes (by rw [h1]; simp; omega), tr_opt, Option.bind_some, tr_yes (by rw [h1]; simp; omega), tr_opt, Option.bind_some, tr_yes (by rw [h2]; simp; omega), tr_opt, Option.bind_some, h1, tr_yes (by simp; omega), tr_opt, ga, Option.bind_some, tr_opt, Option.bind_some, h2, tr_yes (by simp; omega), tr_opt, gc, Option.bind_some, tr_ret]
  simp only [Nat.zero_add, Int.toNat_natCast]
  rw [List.take_of_length_le (by simp)]
end
end Go.Proofs.Pen

namespace Go.Proofs.Pen
open Go Go.Proofs

theorem pre_node (l : List Tr) (w : Bool) (d : Nat) (s : List Int) (n0 o : Nat) (h4 : ¬ s.length ≤ 4) : pre l w (d + 1) s n0 o = ((bxs l s, ((n0 + 1 : Nat) : Int), ((n0 + 1 + (pre l w d (parted l w s).1 (n0 + 1) o).1.length : Nat) : Int), 0, 0) :: ((pre l w d (parted l w s).1 (n0 + 1) o).1 ++ (pre l w d (parted l w s).2 (n0 + 1 + (pre l w d (parted l w s).1 (n0 + 1) o).1.length) (o + (pre l w d (parted l w s).1 (n0 + 1) o).2.length)).1), (pre l w d (parted l w s).1 (n0 + 1) o).2 ++ (pre l w d (parted l w s).2 (n0 + 1 + (pre l w d (parted l w s).1 (n0 + 1) o).1.length) (o + (pre l w d (parted l w s).1 (n0 + 1) o).2.length)).2) := by
  show (if s.length ≤ 4 then _ else _) = _
  rw [if_neg h4]
theorem cnt_le (l : List Tr) (w : Bool) (r : Bx) : ∀ (d : Nat) (s : List Int) (n0 o : Nat), cnt l w r d s ≤ (pre l w d s n0 o).1.length
  | 0, _, _, _ => Nat.le_refl _
  | d + 1, s, n0, o => by
    unfold cnt
    split
    · by_cases h4 : s.length ≤ 4
      · rw [if_pos h4]; unfold pre; rw [if_pos h4]; simp
      · rw [if_neg h4, pre_node l w d s n0 o h4]
        have h1 := cnt_le l w r d (parted l w s).1 (n0 + 1) o
        have h2 := cnt_le l w r d (parted l w s).2 (n0 + 1 + (pre l w d (parted l w s).1 (n0 + 1) o).1.length) (o + (pre l w d (parted l w s).1 (n0 + 1) o).2.length)
        simp only [List.length_cons, List.length_append]
        omega
    · exact Nat.zero_le _
theorem marks_set {A Z : List Bool} {i x y : Nat} {f : Bool} (h : A.drop i = (f :: List.replicate (x + 1 + (y + 1)) false) ++ Z) : ((A.set (i + 1) true).set (i + 1 + (x + 1)) true).drop (i + 1) = (true :: List.replicate x false) ++ ((true :: List.replicate y false) ++ Z) := by
  have h1 : A.drop (i + 1) = List.replicate (x + 1 + (y + 1)) false ++ Z := by
    rw [← List.drop_drop, h]; rfl
  rw [List.drop_set, if_neg (by omega), List.drop_set, if_neg (by omega), h1, Nat.sub_self, show i + 1 + (x + 1) - (i + 1) = x + 1 by omega, ← List.replicate_append_replicate, List.replicate_succ, List.replicate_succ]
  simp
theorem lawWalk (l : List Tr) (r : Bx) (T : List Nd × List Int) (N : List Nd) (w : Bool) (hN : N.length < 900) : ∀ (d : Nat) (s : List Int) (n0 o : Nat) (rest : List Nd) (A Z : List Bool) (fl : Bool) (want : Nat), okS l s → s.length ≤ d → N.drop n0 = (pre l w (d + 1) s n0 o).1 ++ rest → A.length = N.length → A.drop n0 = (fl :: List.replicate ((pre l w (d + 1) s n0 o).1.length - 1) false) ++ Z → want + (pre l w (d + 1) s n0 o).1.length < 900 →
    ∃ A', A'.length = N.length ∧ A'.drop (n0 + (pre l w (d + 1) s n0 o).1.length) = Z ∧ ∀ m, (iterT law13_HitVisits.t0 (m + (pre l w (d + 1) s n0 o).1.length) (SW l r T N A want n0)).run = (iterT law13_HitVisits.t0 m (SW l r T N A' (want + if fl then cnt l w r (d + 1) s else 0) (n0 + (pre l w (d + 1) s n0 o).1.length))).run
  | d, s, n0, o, rest, A, Z, fl, want, hs, hd, hdr, hA, hAd, hw => by
    have hsz := pre_size l w d s n0 o hs hd
    obtain ⟨nd, tl, hh1, hh2⟩ := pre_head l w d s n0 o
    have hdr0 := hdr
    rw [hh1] at hdr0
    obtain ⟨hk, hnd, _⟩ := drop_at hdr0
    have hbox : N[n0].1 = bxs l s := by rw [hnd]; exact hh2
    obtain ⟨hkA, hfl, hAr⟩ := drop_at (a := fl) (A := List.replicate ((pre l w (d + 1) s n0 o).1.length - 1) false) (B := Z) hAd
    by_cases h4 : s.length ≤ 4
    · have hp : pre l w (d + 1) s n0 o = ([(bxs l s, 0, 0, (o : Int), ((o + s.length : Nat) : Int))], insS lessI s) := by unfold pre; rw [if_pos h4]
      rw [hp] at hdr hw hAr ⊢
      obtain ⟨_, hnd, _⟩ := drop_at (A := []) hdr
      refine ⟨A, hA, hAr, fun m => ?_⟩
      cases hc : ((A[n0]'hkA) && (thru N[n0].1 r).isSome) with
      | false =>
        have e : (if fl then cnt l w r (d + 1) s else 0) = 0 := by
          rw [hfl, hbox] at hc
          cases fl with
          | false => rfl
          | true =>
            have hc : (thru (bxs l s) r).isSome = false := by simpa using hc
            show cnt l w r (d + 1) s = 0
            unfold cnt; rw [hc, if_neg (by simp)]
        rw [e]
        exact iter_step (lawStep0 l r T N A want n0 hk hA hN hc)
      | true =>
        have e : (if fl then cnt l w r (d + 1) s else 0) = 1 := by
          rw [hfl, hbox, Bool.and_eq_true] at hc
          rw [hc.1, if_pos rfl]
          unfold cnt; rw [hc.2, if_pos rfl, if_pos h4]
        rw [e]
        exact iter_step (lawLeaf l r T N A want n0 hk hA hN (by simp at hw; omega) hc (by rw [hnd]))
    · cases d with
      | zero => omega
      | succ d =>
        obtain ⟨p1, p2, p3, p4, p5⟩ := parted_ok w hs (by omega)
        have q3 := List.length_pos_iff.2 p3
        have q4 := List.length_pos_iff.2 p4
        have hcnt : cnt l w r (d + 1 + 1) s = if (thru (bxs l s) r).isSome then 1 + cnt l w r (d + 1) (parted l w s).1 + cnt l w r (d + 1) (parted l w s).2 else 0 := by
          show (if (thru (bxs l s) r).isSome then (if s.length ≤ 4 then 1 else _) else 0) = _
          rw [if_neg h4]
        obtain ⟨a1, a2, _, _⟩ := pre_size l w d (parted l w s).1 (n0 + 1) o p1 (by omega)
        obtain ⟨b1, b2, _, _⟩ := pre_size l w d (parted l w s).2 (n0 + 1 + (pre l w (d + 1) (parted l w s).1 (n0 + 1) o).1.length) (o + (pre l w (d + 1) (parted l w s).1 (n0 + 1) o).2.length) p2 (by omega)
        have c1 := cnt_le l w r (d + 1) (parted l w s).1 (n0 + 1) o
        have i1 := lawWalk l r T N w hN d (parted l w s).1 (n0 + 1) o ((pre l w (d + 1) (parted l w s).2 (n0 + 1 + (pre l w (d + 1) (parted l w s).1 (n0 + 1) o).1.length) (o + (pre l w (d + 1) (parted l w s).1 (n0 + 1) o).2.length)).1 ++ rest)
        have i2 := lawWalk l r T N w hN d (parted l w s).2 (n0 + 1 + (pre l w (d + 1) (parted l w s).1 (n0 + 1) o).1.length) (o + (pre l w (d + 1) (parted l w s).1 (n0 + 1) o).2.length) rest
        have hp := pre_node l w (d + 1) s n0 o h4
        clear hh1 hsz hdr0
        rw [hp] at hdr hw hAd ⊢
        rw [hcnt]
        clear hp hcnt hAr
        generalize pre l w (d + 1) (parted l w s).2 (n0 + 1 + (pre l w (d + 1) (parted l w s).1 (n0 + 1) o).1.length) (o + (pre l w (d + 1) (parted l w s).1 (n0 + 1) o).2.length) = Y at *
        generalize pre l w (d + 1) (parted l w s).1 (n0 + 1) o = X at *
        generalize cnt l w r (d + 1) (parted l w s).1 = k1 at *
        generalize cnt l w r (d + 1) (parted l w s).2 = k2 at *
        obtain ⟨_, hnd, hdr1⟩ := drop_at (A := X.1 ++ Y.1) hdr
        rw [List.append_assoc] at hdr1
        have hdr2 := drop_more hdr1
        have hnl := drop_len hdr2 (by omega)
        simp only [List.length_cons, List.length_append] at hw hAd ⊢
        obtain ⟨x, hx⟩ : ∃ x, X.1.length = x + 1 := ⟨X.1.length - 1, by omega⟩
        obtain ⟨y, hy⟩ : ∃ y, Y.1.length = y + 1 := ⟨Y.1.length - 1, by omega⟩
        rw [hx] at i1 i2 hw hAd hdr2 hnl hnd c1 ⊢
        rw [hy] at i2 hw hAd hnl ⊢
        have hAd : A.drop n0 = (fl :: List.replicate (x + 1 + (y + 1)) false) ++ Z := by rw [hAd]; congr 3
        have fin : ∀ (B : List Bool) (g : Bool) (want1 : Nat), B.length = N.length → B.drop (n0 + 1) = (g :: List.replicate x false) ++ ((g :: List.replicate y false) ++ Z) → want1 ≤ want + 1 → ∃ A', A'.length = N.length ∧ A'.drop (n0 + (x + 1 + (y + 1) + 1)) = Z ∧ ∀ m, (iterT law13_HitVisits.t0 (m + (y + 1) + (x + 1)) (SW l r T N B want1 (n0 + 1))).run = (iterT law13_HitVisits.t0 m (SW l r T N A' (want1 + (if g then k1 else 0) + (if g then k2 else 0)) (n0 + (x + 1 + (y + 1) + 1)))).run := fun B g want1 hB hBd hw1 => by
          obtain ⟨B1, u1, u2, u3⟩ := i1 B ((g :: List.replicate y false) ++ Z) g want1 p1 (by omega) hdr1 hB (by rw [hBd]; rfl) (by omega)
          obtain ⟨B2, v1, v2, v3⟩ := i2 B1 Z g (want1 + if g then k1 else 0) p2 (by omega) hdr2 u1 (by rw [u2]; rfl) (by split <;> omega)
          have e : n0 + 1 + (x + 1) + (y + 1) = n0 + (x + 1 + (y + 1) + 1) := by omega
          rw [e] at v2 v3
          exact ⟨B2, v1, v2, fun m => (u3 (m + (y + 1))).trans (v3 m)⟩
        cases hc : ((A[n0]'hkA) && (thru N[n0].1 r).isSome) with
        | false =>
          have e : (if fl then (if (thru (bxs l s) r).isSome then 1 + k1 + k2 else 0) else 0) = 0 := by
            rw [hfl, hbox] at hc
            cases fl with
            | false => rfl
            | true =>
              have hc : (thru (bxs l s) r).isSome = false := by simpa using hc
              rw [hc]; rfl
          rw [e]
          obtain ⟨A', t1, t2, t3⟩ := fin A false want hA (by
            have h1 : A.drop (n0 + 1) = List.replicate (x + 1 + (y + 1)) false ++ Z := by rw [← List.drop_drop, hAd]; rfl
            rw [h1, ← List.replicate_append_replicate, List.replicate_succ, List.replicate_succ]; simp) (by omega)
          refine ⟨A', t1, t2, fun m => ?_⟩
          rw [show m + (x + 1 + (y + 1) + 1) = m + (y + 1) + (x + 1) + 1 by omega]
          exact (iter_step (lawStep0 l r T N A want n0 hk hA hN hc)).trans (t3 m)
        | true =>
          have hst := lawNode l r T N A want n0 (n0 + 1) (n0 + 1 + (x + 1)) hk hA hN (by omega) hc (by omega) (by omega) (by omega) (by rw [hnd]) (by rw [hnd])
          have e : (if fl then (if (thru (bxs l s) r).isSome then 1 + k1 + k2 else 0) else 0) = 1 + k1 + k2 := by
            rw [hfl, hbox, Bool.and_eq_true] at hc
            rw [hc.1, hc.2]; rfl
          rw [e]
          obtain ⟨A', t1, t2, t3⟩ := fin _ true (want + 1) (by simp [hA]) (marks_set hAd) (Nat.le_refl _)
          refine ⟨A', t1, t2, fun m => ?_⟩
          rw [show m + (x + 1 + (y + 1) + 1) = m + (y + 1) + (x + 1) + 1 by omega, show want + (1 + k1 + k2) = want + 1 + k1 + k2 by omega]
          exact (iter_step hst).trans (t3 m)
end Go.Proofs.Pen

namespace Go.Proofs.Pen
open Go Go.Proofs

def eA (c : Bool) : Fl := if c then some 13830554455654793216 else f0
structure BlockOf (g : Nat → Option V3) (m : Fl) (n : Nat) (A : Nat → Prop) (c : Bool) : Prop where
  yes : c = true → ∃ j, j < n ∧ blk g m j = true
  no : c = false → ∀ j, A j → blk g m j = false
theorem BlockOf.more {g : Nat → Option V3} {m : Fl} {n : Nat} {A B : Nat → Prop} {c : Bool} (h : BlockOf g m n A c) (hn : c = false → ∀ j, B j → A j ∨ g j = none) : BlockOf g m n B c := by
  refine ⟨h.yes, fun e j hj => ?_⟩
  rcases hn e j hj with h1 | h1
  · exact h.no e j h1
  · unfold blk; rw [h1]
end Go.Proofs.Pen

namespace Go.Proofs.Pen
open Go Go.Proofs

section
variable (l : List Tr) (skip : List Int) (r : Bx) (m : Fl) (N : List Nd) (O : List Int)
end
end Go.Proofs.Pen

namespace Go.Proofs.Pen
open Go Go.Proofs

section
variable (l : List Tr) (skip : List Int) (r : Bx) (m : Fl) (N : List Nd) (O : List Int)
def SA (b : Bool) (wait : List Int) (seen : Nat) : Fl × Bool × (List Tr × List Int × Bx) × (List Nd × List Int) × ((List Nd × List Int) × Bx × List Int × Unit) × Fl × Bool × Int × Unit := (m, b, (l, skip, r), (N, O), ((N, O), r, wait, ()), eA b, b, (seen : Int), ())
structure WalkedA (s : List Int) (st1 st : List Int) (b : Bool) (seen cnt : Nat) (A : Nat → Prop) : Prop where
  ex : ∃ (k : Nat) (b' : Bool), k ≤ cnt ∧ BlockOf (ask l skip r) m l.length (fun j => A j ∨ ∃ i ∈ s, i.toNat = j) b' ∧ ∀ m', (iterT eachAny.t0 (m' + k) (SA l skip r m N O b st1 seen)).run = (iterT eachAny.t0 m' (SA l skip r m N O b' st (seen + k))).run
end
end Go.Proofs.Pen

namespace Go.Proofs.Pen
open Go Go.Proofs

end Go.Proofs.Pen

namespace Go.Proofs.Pen
open Go Go.Proofs
end Go.Proofs.Pen

namespace Go.Proofs.Pen
open Go Go.Proofs

theorem few_eq (l : List Tr) : law13_few (l, 100) = some ((l.take 100).filter tMay) := by
  unfold law13_few law13_few.t
  dsimp only
  rw [tr_opt]
  have h := iter_count (t := law13_few.t0) (fun k => (l, (100 : Int), (l.take k).filter tMay, (k : Int), ())) (e := .exit 0) (z := (l, (100 : Int), (l.take 100).filter tMay, ((min 100 l.length : Nat) : Int), ())) (by simp) (min 100 l.length) 0 rounds (fun k _ hk => by
    have hk1 : k < l.length := by omega
    have hle : ((l.take k).filter tMay).length ≤ 100 := Nat.le_trans (List.length_filter_le _ _) (by rw [List.length_take]; omega)
    have hft : (l.take (k + 1)).filter tMay = if tMay l[k] then (l.take k).filter tMay ++ [l[k]] else (l.take k).filter tMay := by
      rw [List.take_succ_eq_append_getElem hk1, List.filter_append, List.filter_cons]
      split <;> simp
    unfold law13_few.t0
    dsimp only
    rw [tr_yes (by simp; omega), tr_opt, lget_nat l hk1, Option.bind_some, tr_opt, ref12_May_eq, Option.bind_some, W_succ (by omega), hft]
    cases tMay l[k] with
    | true => rw [tr_yes rfl, tr_opt, Option.bind_some, tr_yes (decide_eq_true (room (by omega) (by decide))), tr_ret, take_all]; rfl
    | false => rw [tr_no rfl, tr_ret, List.take_length]; rfl) (by
    unfold law13_few.t0
    have h1 : l.take (0 + min 100 l.length) = l.take 100 := by
      rw [Nat.zero_add]
      rcases Nat.le_total 100 l.length with h | h
      · rw [Nat.min_eq_left h]
      · rw [Nat.min_eq_right h, List.take_length, List.take_of_length_le h]
    dsimp only
    rw [tr_no (by simp; omega), tr_ret, h1, List.take_length, Nat.zero_add]) (rounds_gt (by omega))
  refine bind_of h ?_
  rw [tr_yes (by rfl), tr_ret, List.take_length]
end Go.Proofs.Pen

namespace Go.Proofs.Pen
open Go Go.Proofs

theorem hit_Visits_eq (l : List Tr) (w : Bool) (r : Bx) (hl : l.length ≤ 200) : hit_Visits (treeOf l w, r) = some ((cnt l w r (999 + 1) (nums l.length) : Nat) : Int) := by
  generalize hT : treeOf l w = T
  obtain ⟨N, O⟩ := T
  obtain ⟨hp, hk, hbox⟩ := tree_at l w (by omega) hT
  have hsz := pre_size l w 999 (nums l.length) 0 0 (nums_ok l) (by rw [nums_len]; omega)
  have hwk := fun a b c => walkV l r N O w a b 999 (nums l.length) [] 0 0 0 [] [] (nums_ok l) (by rw [nums_len]; omega) (by rw [nums_len]; simp; omega) c (by rw [hp, List.append_nil]; rfl) (by rw [hp, List.append_nil]; rfl) (Nat.zero_le _)
  rw [hp] at hsz hwk
  rw [nums_len] at hsz
  obtain ⟨w1, w2⟩ := hwk (by have := hsz.2.2.1; dsimp only at this; omega) (by have := hsz.1; dsimp only at this; omega) (by have := hsz.2.2.1; dsimp only at this ⊢; omega)
  generalize cnt l w r (999 + 1) (nums l.length) = k at *
  obtain ⟨q, hr⟩ : ∃ q, rounds = q + 1 + k := ⟨rounds - 1 - k, by have := rounds_gt (n := 5000) (by omega); have := hsz.2.2.1; dsimp only at this w1; omega⟩
  have hend : (iterT eachVisits.t0 (q + 1) (SV r N O [] (0 + k))).run = some (.exit 0, SV r N O [] (0 + k)) := by
    rw [iter_step (e := .exit 0) (by unfold eachVisits.t0 SV; rw [tr_no (by rfl), tr_ret])]
    rfl
  have hrun : eachVisits.l0 (SV r N O (pushed [] ((0 : Nat) : Int) (bxs l (nums l.length)) r) 0) = some (.exit 0, SV r N O [] (0 + k)) := by
    show (iterT eachVisits.t0 rounds _).run = _
    rw [hr]
    exact (w2 (q + 1)).trans hend
  unfold hit_Visits hit_Visits.t
  dsimp only
  rw [tr_opt, show bvh_Tree_Node ((N, O), 0) = some (N[0], true) from NodeAt N O hk, Option.bind_some, tr_no (by rfl), tr_opt, box_Through_eq, Option.bind_some, thr_ok, hbox]
  unfold pushed at hrun
  cases hc : (thru (bxs l (nums l.length)) r).isSome with
  | true =>
    rw [hc, if_pos rfl] at hrun
    rw [tr_yes rfl, tr_yes (by decide), tr_opt]
    refine bind_of hrun ?_
    rw [tr_yes (by rfl), tr_ret]
    unfold SV
    rw [Nat.zero_add]
  | false =>
    rw [hc, if_neg (by simp)] at hrun
    rw [tr_no rfl, tr_opt]
    refine bind_of hrun ?_
    rw [tr_yes (by rfl), tr_ret]
    unfold SV
    rw [Nat.zero_add]
theorem law_cnt (l : List Tr) (w : Bool) (r : Bx) (hl : l.length ≤ 200) {N : List Nd} {O : List Int} (hT : treeOf l w = (N, O)) : ∃ A, law13_HitVisits.l0 (SW l r (N, O) N ((List.replicate N.length false).set 0 true) 0 0) = some (.exit 0, SW l r (N, O) N A (cnt l w r (999 + 1) (nums l.length)) N.length) := by
  obtain ⟨hp, hk, hbox⟩ := tree_at l w (by omega) hT
  have hsz := pre_size l w 999 (nums l.length) 0 0 (nums_ok l) (by rw [nums_len]; omega)
  have hwk := fun a b c => lawWalk l r (N, O) N w a 999 (nums l.length) 0 0 [] ((List.replicate N.length false).set 0 true) [] true 0 (nums_ok l) (by rw [nums_len]; omega) (by rw [hp, List.append_nil]; rfl) (by simp) b c
  rw [hp] at hsz hwk
  rw [nums_len] at hsz
  have hN : N.length < 900 := by have := hsz.2.2.1; dsimp only at this; omega
  obtain ⟨n, hn⟩ : ∃ n, N.length = n + 1 := ⟨N.length - 1, by omega⟩
  obtain ⟨A', _, _, h3⟩ := hwk hN (by dsimp only; rw [hn, List.replicate_succ]; simp) (by dsimp only; omega)
  refine ⟨A', ?_⟩
  obtain ⟨q, hr⟩ : ∃ q, rounds = q + 1 + N.length := ⟨rounds - 1 - N.length, by have := rounds_gt (n := 5000) (by omega); omega⟩
  show (iterT law13_HitVisits.t0 rounds _).run = _
  rw [hr]
  refine (h3 (q + 1)).trans ?_
  rw [Nat.zero_add, Nat.zero_add, if_pos rfl, iter_step (e := .exit 0) (by unfold law13_HitVisits.t0 SW; rw [tr_no (by simp), tr_ret])]
  unfold SW
  dsimp only
  rw [List.take_length]
theorem HitVisits_law (x : List Tr × Bx × Bool) : law13_HitVisits x = some true := by
  obtain ⟨l0, r, w⟩ := x
  unfold law13_HitVisits law13_HitVisits.t
  dsimp only
  rw [tr_opt, few_eq, Option.bind_some]
  have hl : ((l0.take 100).filter tMay).length ≤ 200 := Nat.le_trans (List.length_filter_le _ _) (by rw [List.length_take]; omega)
  have hL : okL ((l0.take 100).filter tMay) := List.all_eq_true.2 fun t ht => (List.mem_filter.1 ht).2
  generalize (l0.take 100).filter tMay = l at hl hL
  have hv := hit_Visits_eq l w r hl
  have hlaw := fun N O => law_cnt l w r hl (N := N) (O := O)
  obtain ⟨z1, z2⟩ := pre_size l w 999 (nums l.length) 0 0 (nums_ok l) (by rw [nums_len]; omega)
  have z3 : 1 ≤ (treeOf l w).1.length ∧ (treeOf l w).1.length ≤ 2 * (nums l.length).length + 1 := ⟨z2.1, z2.2.1⟩
  rw [nums_len] at z3
  rw [tr_opt, New_ok l w (by omega) hL, Option.bind_some, tr_no (by rfl)]
  generalize treeOf l w = T at *
  obtain ⟨N, O⟩ := T
  obtain ⟨A, hA⟩ := hlaw N O rfl
  dsimp only at z3 ⊢
  have hnod : bvh_Tree_Nodes (N, O) = some N := by
    unfold bvh_Tree_Nodes bvh_Tree_Nodes.t
    dsimp only
    rw [tr_yes (by unfold most; simp; omega), tr_ret, List.take_length]
  have hg : (List.replicate N.length false)[0 + Int.toNat 0]? = some false := by
    rw [List.getElem?_replicate, if_pos (by show 0 < N.length; omega)]
  rw [tr_opt, Option.bind_some, tr_no (by rfl), tr_opt, hnod, Option.bind_some, tr_yes (by unfold most; simp; omega), tr_yes (by simp; omega)]
  simp only [Int.toNat_natCast]
  rw [tr_opt, hg, Option.bind_some, tr_opt]
  refine bind_of (by
    have : List.take N.length ((List.replicate N.length false).set (0 + Int.toNat 0) true) = (List.replicate N.length false).set 0 true := List.take_of_length_le (by simp)
    rw [this]; exact hA) ?_
  unfold SW
  dsimp only
  have hz : (ford (some 0) (some 0) == some Ordering.eq) = true := by decide +kernel
  rw [tr_yes (by rfl), tr_yes rfl, tr_opt, hv, Option.bind_some, tr_yes (by simp), tr_no (by rfl), tr_yes (by rw [hz]; rfl), tr_no (by rfl), tr_yes rfl, tr_no (by rfl), tr_ret]
  rfl
theorem HitVisits_all (x : dens [(.sl TTri), TBox, .bool]) (_ : insAll [(.sl TTri), TBox, .bool] x) : (law13_HitVisits.t x).run = some true := HitVisits_law x
end Go.Proofs.Pen
