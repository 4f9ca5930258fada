/- A part of the proof that the law BvhNone is true of every input: models of the functions that the law reaches, and what holds of them. -/
import Derived.Shelf.Small.Bits
import Derived.Shelf.Small.Wraps
import Derived.Shelf.Strconv.Itoa0
import Derived.Shelf.Sort.Plain
import Derived.Ground.Names2Prog
import Derived.Shelf.Slices.Clone
import Derived.Shelf.Slices.SearchI
import Derived.Shelf.Slices.In.SortNone
import Derived.Ground.SlgnProg
import Derived.Shelf.SlicesE.Clone
import Derived.Ground.SlsfProg
import Derived.Shelf.SlSortCmp.Insertion
import Derived.Shelf.SlSortCmp.SiftDown1
import Derived.Shelf.SlSortCmp.HeapSort1
import Derived.Shelf.SlSortCmp.Insertion1
import Derived.Shelf.SlSortCmp.Median1
import Derived.Shelf.SlSortCmp.Pivot1
import Derived.Shelf.SlSortCmp.ReverseRange1
import Derived.Shelf.SlSortCmp.PartialInsertion1
import Derived.Shelf.SlSortCmp.PartitionEqual1
import Derived.Shelf.SlSortCmp.Partition1
import Derived.Shelf.SlSortCmp.Pdq1
import Derived.Shelf.SlSortCmp.Whole1
import Derived.Shelf.SlSortCmp.NoneTotal
import Derived.Test.YtncgifjccpngfaaProg
import Derived.Test.YtncgifjccpngfaaChecked
import Derived.KernelRfl
import Derived.Test.YtncgifjccpngfaaPenKit0
import Derived.Test.YtncgifjccpngfaaPenKit1
import Derived.Test.YtncgifjccpngfaaPenKit2
import Derived.Test.YtncgifjccpngfaaPenKit3
namespace Go.Proofs
open Go.Shelf
def Try.lays189_ren : Go.Shelf.Ren := ⟨fun | 189 => 38 | 125 => 50 | 257 => 49 | 128 => 73 | 129 => 74 | 294 => 64 | 295 => 65 | 296 => 66 | 297 => 67 | 298 => 68 | 299 => 69 | 216 => 70 | 300 => 71 | 301 => 72 | 328 => 80 | 329 => 81 | 330 => 82 | 331 => 83 | 332 => 84 | 215 => 79 | 343 => 93 | n => n, fun | 28 => 35 | 3 => 3 | 46 => 85 | 0 => 0 | 51 => 105 | 53 => 93 | 4 => 4 | 183 => 97 | 182 => 96 | 131 => 102 | 5 => 5 | 9 => 9 | 218 => 110 | 222 => 114 | 228 => 121 | 229 => 122 | n => n, fun | n => n⟩
theorem Try.lays189 : Go.Proofs.Lays.n189 Try.prog Try.lays189_ren := {
  mixed := by kernel_rfl
  f125 := Try.func50.trans (congrArg some (by kernel_rfl))
  f128 := Try.func73.trans (congrArg some (by kernel_rfl))
  f129 := Try.func74.trans (congrArg some (by kernel_rfl))
  f189 := Try.func38.trans (congrArg some (by kernel_rfl))
  f215 := Try.func79.trans (congrArg some (by kernel_rfl))
  f216 := Try.func70.trans (congrArg some (by kernel_rfl))
  f257 := Try.func49.trans (congrArg some (by kernel_rfl))
  f294 := Try.func64.trans (congrArg some (by kernel_rfl))
  f295 := Try.func65.trans (congrArg some (by kernel_rfl))
  f296 := Try.func66.trans (congrArg some (by kernel_rfl))
  f297 := Try.func67.trans (congrArg some (by kernel_rfl))
  f298 := Try.func68.trans (congrArg some (by kernel_rfl))
  f299 := Try.func69.trans (congrArg some (by kernel_rfl))
  f300 := Try.func71.trans (congrArg some (by kernel_rfl))
  f301 := Try.func72.trans (congrArg some (by kernel_rfl))
  f328 := Try.func80.trans (congrArg some (by kernel_rfl))
  f329 := Try.func81.trans (congrArg some (by kernel_rfl))
  f330 := Try.func82.trans (congrArg some (by kernel_rfl))
  f331 := Try.func83.trans (congrArg some (by kernel_rfl))
  f332 := Try.func84.trans (congrArg some (by kernel_rfl))
  f343 := Try.func93.trans (congrArg some (by kernel_rfl))
  t0 := Try.underlying0
  a0 := Try.isAgg0
  z0 := Try.sizeOf0
  v0 := Try.zeroValue0
  t3 := Try.underlying3
  a3 := Try.isAgg3
  z3 := Try.sizeOf3
  v3 := Try.zeroValue3
  t4 := Try.underlying4
  a4 := Try.isAgg4
  z4 := Try.sizeOf4
  v4 := Try.zeroValue4
  t5 := Try.underlying5
  a5 := Try.isAgg5
  z5 := Try.sizeOf5
  v5 := Try.zeroValue5
  t9 := Try.underlying9
  a9 := Try.isAgg9
  z9 := Try.sizeOf9
  v9 := Try.zeroValue9
  t28 := Try.underlying35
  a28 := Try.isAgg35
  z28 := Try.sizeOf35
  v28 := Try.zeroValue35
  t46 := Try.underlying85
  a46 := Try.isAgg85
  z46 := Try.sizeOf85
  v46 := Try.zeroValue85
  t51 := Try.underlying105
  a51 := Try.isAgg105
  z51 := Try.sizeOf105
  v51 := Try.zeroValue105
  t53 := Try.underlying93
  a53 := Try.isAgg93
  z53 := Try.sizeOf93
  v53 := Try.zeroValue93
  t131 := Try.underlying102
  a131 := Try.isAgg102
  z131 := Try.sizeOf102
  v131 := Try.zeroValue102
  t182 := Try.underlying96
  a182 := Try.isAgg96
  z182 := Try.sizeOf96
  v182 := Try.zeroValue96
  t183 := Try.underlying97
  a183 := Try.isAgg97
  z183 := Try.sizeOf97
  v183 := Try.zeroValue97
  t218 := Try.underlying110
  a218 := Try.isAgg110
  z218 := Try.sizeOf110
  v218 := Try.zeroValue110
  t222 := Try.underlying114
  a222 := Try.isAgg114
  z222 := Try.sizeOf114
  v222 := Try.zeroValue114
  t228 := Try.underlying121
  a228 := Try.isAgg121
  z228 := Try.sizeOf121
  v228 := Try.zeroValue121
  t229 := Try.underlying122
  a229 := Try.isAgg122
  z229 := Try.sizeOf122
  v229 := Try.zeroValue122 }
open Go.Sort Go.RowKit in
theorem Try.slices_Sort_int (blk off cap : Nat) (zs : List Int) (w : World) (hH : Holds (Value.int .i64) w blk off zs.toArray) (hblk : blk < w.heap.size) (hsz : zs.length < 4611686018427387904) :
    Calls Try.prog 38 #[.slice (some ⟨blk, off, none⟩) zs.length cap] w fun e w' =>
      e = .returned (.tuple #[]) ∧ ∃ n os, w' = grow (putRow (Value.int .i64) (Sort.ahead w n) blk off (zs.mergeSort fun x y => decide (x ≤ y)).toArray) os := Any.slices_Sort_int Try.lays189 blk off cap zs w hH hblk hsz
open Go.RowKit Go.Sort in
theorem Try.slices_Sort_int_none (p : Option Addr) (cap : Nat) (w : World) :
    Calls Try.prog 38 #[.slice p 0 cap] w fun e w' => e = .returned (.tuple #[]) ∧ w' = w := Any.slices_Sort_int_none Try.lays189 p cap w
def Try.laysSlF6_f55_ren : Go.Shelf.Ren := ⟨fun | 6 => 55 | 15 => 50 | 14 => 77 | 28 => 73 | 29 => 74 | 20 => 85 | 21 => 86 | 22 => 87 | 23 => 88 | 24 => 89 | 25 => 90 | 26 => 91 | 27 => 92 | 46 => 94 | 47 => 81 | 48 => 82 | 49 => 95 | 50 => 96 | 57 => 97 | n => n, fun | 22 => 35 | 24 => 3 | 25 => 92 | 3 => 3 | 39 => 85 | 0 => 0 | 53 => 105 | 55 => 93 | 4 => 4 | 46 => 97 | 45 => 96 | 50 => 102 | 5 => 5 | 9 => 9 | 66 => 110 | 70 => 114 | 76 => 121 | 77 => 122 | n => n, fun | n => n⟩
theorem Try.laysSlF6_f55 : Go.Proofs.SlLaysF.n6 Try.prog Try.laysSlF6_f55_ren := {
  mixed := by kernel_rfl
  f6 := ⟨Try.f55.name, by decide, Try.func55.trans (congrArg some (by kernel_rfl))⟩
  f14 := ⟨Try.f77.name, by decide, Try.func77.trans (congrArg some (by kernel_rfl))⟩
  f15 := Try.func50.trans (congrArg some (by kernel_rfl))
  f20 := ⟨Try.f85.name, by decide, Try.func85.trans (congrArg some (by kernel_rfl))⟩
  f21 := ⟨Try.f86.name, by decide, Try.func86.trans (congrArg some (by kernel_rfl))⟩
  f22 := ⟨Try.f87.name, by decide, Try.func87.trans (congrArg some (by kernel_rfl))⟩
  f23 := ⟨Try.f88.name, by decide, Try.func88.trans (congrArg some (by kernel_rfl))⟩
  f24 := ⟨Try.f89.name, by decide, Try.func89.trans (congrArg some (by kernel_rfl))⟩
  f25 := ⟨Try.f90.name, by decide, Try.func90.trans (congrArg some (by kernel_rfl))⟩
  f26 := ⟨Try.f91.name, by decide, Try.func91.trans (congrArg some (by kernel_rfl))⟩
  f27 := ⟨Try.f92.name, by decide, Try.func92.trans (congrArg some (by kernel_rfl))⟩
  f28 := Try.func73.trans (congrArg some (by kernel_rfl))
  f29 := Try.func74.trans (congrArg some (by kernel_rfl))
  f46 := ⟨Try.f94.name, by decide, Try.func94.trans (congrArg some (by kernel_rfl))⟩
  f47 := Try.func81.trans (congrArg some (by kernel_rfl))
  f48 := Try.func82.trans (congrArg some (by kernel_rfl))
  f49 := ⟨Try.f95.name, by decide, Try.func95.trans (congrArg some (by kernel_rfl))⟩
  f50 := ⟨Try.f96.name, by decide, Try.func96.trans (congrArg some (by kernel_rfl))⟩
  f57 := ⟨Try.f97.name, by decide, Try.func97.trans (congrArg some (by kernel_rfl))⟩
  t0 := Try.underlying0
  a0 := Try.isAgg0
  z0 := Try.sizeOf0
  v0 := Try.zeroValue0
  t3 := Try.underlying3
  a3 := Try.isAgg3
  z3 := Try.sizeOf3
  v3 := Try.zeroValue3
  t4 := Try.underlying4
  a4 := Try.isAgg4
  z4 := Try.sizeOf4
  v4 := Try.zeroValue4
  t5 := Try.underlying5
  a5 := Try.isAgg5
  z5 := Try.sizeOf5
  v5 := Try.zeroValue5
  t9 := Try.underlying9
  a9 := Try.isAgg9
  z9 := Try.sizeOf9
  v9 := Try.zeroValue9
  t22 := Try.underlying35
  a22 := Try.isAgg35
  z22 := Try.sizeOf35
  v22 := Try.zeroValue35
  a24 := Try.isAgg3
  z24 := Try.sizeOf3
  t25 := Try.underlying92
  a25 := Try.isAgg92
  z25 := Try.sizeOf92
  v25 := Try.zeroValue92
  t39 := Try.underlying85
  a39 := Try.isAgg85
  z39 := Try.sizeOf85
  v39 := Try.zeroValue85
  t45 := Try.underlying96
  a45 := Try.isAgg96
  z45 := Try.sizeOf96
  v45 := Try.zeroValue96
  t46 := Try.underlying97
  a46 := Try.isAgg97
  z46 := Try.sizeOf97
  v46 := Try.zeroValue97
  t50 := Try.underlying102
  a50 := Try.isAgg102
  z50 := Try.sizeOf102
  v50 := Try.zeroValue102
  t53 := Try.underlying105
  a53 := Try.isAgg105
  z53 := Try.sizeOf105
  v53 := Try.zeroValue105
  t55 := Try.underlying93
  a55 := Try.isAgg93
  z55 := Try.sizeOf93
  v55 := Try.zeroValue93
  t66 := Try.underlying110
  a66 := Try.isAgg110
  z66 := Try.sizeOf110
  v66 := Try.zeroValue110
  t70 := Try.underlying114
  a70 := Try.isAgg114
  z70 := Try.sizeOf114
  v70 := Try.zeroValue114
  t76 := Try.underlying121
  a76 := Try.isAgg121
  z76 := Try.sizeOf121
  v76 := Try.zeroValue121
  t77 := Try.underlying122
  a77 := Try.isAgg122
  z77 := Try.sizeOf122
  v77 := Try.zeroValue122 }
open Go.RowKit Go.Lib Go.Sort in
theorem Try.slices_SortFunc_total {α : Type} [Inhabited α] (enc : α → Value) (h1 : OneCell enc) (cf : α → α → Int) (hO : SWO (ltOf cf)) (g : Nat) (cb : Array Value) (blk off cap : Nat) (d : Array α) (w : World) (eg : ∀ args w, (callFunc g args).run Try.prog w = .ok (.enter g args) w) (hcmp : CmpLays1 Try.prog g cb enc cf blk off d.size w) (hH : Holds enc w blk off d) (hblk : blk < w.heap.size) (hsz : d.size < 4611686018427387904) (hT : ∀ x y, (ltOf cf) x y = false → (ltOf cf) y x = false → x = y) :
    Calls Try.prog 55 #[.slice (some ⟨blk, off, none⟩) d.size cap, .func (.func g) #[] cb] w fun e w' =>
      e = .returned (.tuple #[]) ∧ ∃ n os, w' = sortWorld enc w blk off n (d.toList.mergeSort fun x y => !(ltOf cf) y x).toArray os := Any.slices_SortFunc_total Try.laysSlF6_f55 enc h1 cf hO g cb blk off cap d w eg hcmp hH hblk hsz hT
end Go.Proofs

namespace Go.Proofs.Pen
open Go Go.Proofs Go.RowKit
theorem sorts_fn : SortsFn Try.prog 55 := fun _ _ cf hO g cb blk off cap d w eg hcmp hH hblk hsz hT => Try.slices_SortFunc_total _ (fun _ => rfl) cf hO g cb blk off cap d w eg hcmp hH hblk hsz hT
theorem sorts_int : SortsInt Try.prog 38 := ⟨fun blk off cap zs w hH hblk hsz => Try.slices_Sort_int blk off cap zs w hH hblk hsz, fun p cap w => Try.slices_Sort_int_none p cap w⟩
end Go.Proofs.Pen

namespace Go.Proofs.Pen
open Go Go.Proofs
abbrev TI : Ty := (.int .i64)
abbrev TV : Ty := (.st (.pair .flt (.pair .flt .flt)))
abbrev THit : Ty := (.st (.pair (.int .i64) (.pair .flt (.pair .flt .flt))))
abbrev TBox : Ty := (.st (.pair (.st (.pair .flt (.pair .flt .flt))) (.st (.pair .flt (.pair .flt .flt)))))
abbrev TTri : Ty := (.st (.pair (.st (.pair .flt (.pair .flt .flt))) (.pair (.st (.pair .flt (.pair .flt .flt))) (.st (.pair .flt (.pair .flt .flt))))))
abbrev TNode : Ty := (.st (.pair (.st (.pair (.st (.pair .flt (.pair .flt .flt))) (.st (.pair .flt (.pair .flt .flt))))) (.pair (.int .i64) (.pair (.int .i64) (.pair (.int .i64) (.int .i64))))))
abbrev TTree : Ty := (.st (.pair (.sl (.st (.pair (.st (.pair (.st (.pair .flt (.pair .flt .flt))) (.st (.pair .flt (.pair .flt .flt))))) (.pair (.int .i64) (.pair (.int .i64) (.pair (.int .i64) (.int .i64))))))) (.sl (.int .i64))))
abbrev TBld : Ty := (.st (.pair (.sl (.st (.pair (.st (.pair .flt (.pair .flt .flt))) (.st (.pair .flt (.pair .flt .flt)))))) (.pair (.sl (.st (.pair .flt (.pair .flt .flt)))) (.pair .bool (.ptr (.st (.pair (.sl (.st (.pair (.st (.pair (.st (.pair .flt (.pair .flt .flt))) (.st (.pair .flt (.pair .flt .flt))))) (.pair (.int .i64) (.pair (.int .i64) (.pair (.int .i64) (.int .i64))))))) (.sl (.int .i64)))))))))
theorem mixed : Try.prog.follows .mixedOrders = true := by kernel_rfl
theorem xFB : ExOK Try.prog 60 fromBitsAV := fromBits_ok (by intros; kernel_rfl)
noncomputable def Xs : Nat → List AV → T AV := ext noQ 60 fromBitsAV
theorem Xok : QuietOK Try.prog Xs := quiet_extE (quiet_none _) xFB
noncomputable def tb : DTab := (tbExt (tbExt tbNone 25 (cloneD TI 8)) 26 (cloneD TNode 80))
theorem tbOk : TBOK Try.prog tb := (tb_ext (tb_ext (tb_none _) (clone_deep (F := { quiet := noQ, deep := noDeep }) (D := D0) (S := noS) mixed (quiet_none _) (deep_none _) Try.func25 (by kernel_rfl) (fun c _ => sok_none _ 0 c) (by kernel_rfl) (t := TI) (bt := 8) (by kernel_rfl) (fun v => by kernel_rfl) (fun xs => by kernel_rfl))) (clone_deep (F := { quiet := noQ, deep := noDeep }) (D := D0) (S := noS) mixed (quiet_none _) (deep_none _) Try.func26 (by kernel_rfl) (fun c _ => sok_none _ 0 c) (by kernel_rfl) (t := TNode) (bt := 80) (by kernel_rfl) (fun v => by kernel_rfl) (fun xs => by kernel_rfl)))
end Go.Proofs.Pen

namespace Go.Proofs.Pen
open Go Go.Proofs
noncomputable def bvh_Tree_Nodes.deeps : Deeps := { D := [26], C := [], frz := false, S := fun _ _ => noS }
theorem bvh_Tree_Nodes.deepsOk : LoopsOK Try.prog bvh_Tree_Nodes.deeps.S := (loops_none _)
noncomputable def bvh_Tree_Nodes.t (x : ((List (((Option Nat × Option Nat × Option Nat) × Option Nat × Option Nat × Option Nat) × Int × Int × Int × Int)) × List (Int))) : T ((List (((Option Nat × Option Nat × Option Nat) × Option Nat × Option Nat × Option Nat) × Int × Int × Int × Int))) := T.ite (decide (List.length x.1 * (80 : Nat) ≤ most)) (T.ret (List.take (List.length x.1) x.1)) T.fail
noncomputable def bvh_Tree_Nodes (x : ((List (((Option Nat × Option Nat × Option Nat) × Option Nat × Option Nat × Option Nat) × Int × Int × Int × Int)) × List (Int))) : Option ((List (((Option Nat × Option Nat × Option Nat) × Option Nat × Option Nat × Option Nat) × Int × Int × Int × Int))) := (bvh_Tree_Nodes.t x).run
noncomputable def bvh_Tree_Nodes.q : List AV → T AV := entry [(.ptr TTree)] (outR [(.sl TNode)]) fun x => .opt (bvh_Tree_Nodes x) .ret
theorem bvh_Tree_Nodes.ok : FnOK Try.prog 13 bvh_Tree_Nodes.q :=
  entry_call (ps := [(.ptr TTree)]) (rs := [(.sl TNode)]) (F := (dpT Try.prog Xs bvh_Tree_Nodes.deeps tb 100 8)) (D := (inL bvh_Tree_Nodes.deeps.D)) (S := tabS []) (t := bvh_Tree_Nodes.t) mixed (dpT_ok mixed Xok bvh_Tree_Nodes.deepsOk tbOk 100 8).1 (dpT_ok mixed Xok bvh_Tree_Nodes.deepsOk tbOk 100 8).2 Try.func13 (by kernel_rfl) (sok_fn trivial) (by kernel_rfl) (fun x => by kernel_rfl)
end Go.Proofs.Pen

namespace Go.Proofs.Pen
open Go Go.Proofs
noncomputable def bvh_Tree_Order.deeps : Deeps := { D := [25], C := [], frz := false, S := fun _ _ => noS }
theorem bvh_Tree_Order.deepsOk : LoopsOK Try.prog bvh_Tree_Order.deeps.S := (loops_none _)
noncomputable def bvh_Tree_Order.t (x : ((List (((Option Nat × Option Nat × Option Nat) × Option Nat × Option Nat × Option Nat) × Int × Int × Int × Int)) × List (Int))) : T ((List (Int))) := T.ite (decide (List.length x.2 * (8 : Nat) ≤ most)) (T.ret (List.take (List.length x.2) x.2)) T.fail
noncomputable def bvh_Tree_Order (x : ((List (((Option Nat × Option Nat × Option Nat) × Option Nat × Option Nat × Option Nat) × Int × Int × Int × Int)) × List (Int))) : Option ((List (Int))) := (bvh_Tree_Order.t x).run
noncomputable def bvh_Tree_Order.q : List AV → T AV := entry [(.ptr TTree)] (outR [(.sl TI)]) fun x => .opt (bvh_Tree_Order x) .ret
theorem bvh_Tree_Order.ok : FnOK Try.prog 9 bvh_Tree_Order.q :=
  entry_call (ps := [(.ptr TTree)]) (rs := [(.sl TI)]) (F := (dpT Try.prog Xs bvh_Tree_Order.deeps tb 100 8)) (D := (inL bvh_Tree_Order.deeps.D)) (S := tabS []) (t := bvh_Tree_Order.t) mixed (dpT_ok mixed Xok bvh_Tree_Order.deepsOk tbOk 100 8).1 (dpT_ok mixed Xok bvh_Tree_Order.deepsOk tbOk 100 8).2 Try.func9 (by kernel_rfl) (sok_fn trivial) (by kernel_rfl) (fun x => by kernel_rfl)
end Go.Proofs.Pen

namespace Go.Proofs.Pen
open Go Go.Proofs
noncomputable def bvh_Tree_Node.t (x : ((List (((Option Nat × Option Nat × Option Nat) × Option Nat × Option Nat × Option Nat) × Int × Int × Int × Int)) × List (Int)) × Int) : T ((((Option Nat × Option Nat × Option Nat) × Option Nat × Option Nat × Option Nat) × Int × Int × Int × Int) × Bool) := T.ite (decide (x.2 < (0 : Int))) (T.ret ((((some (0 : Nat), some (0 : Nat), some (0 : Nat)), some (0 : Nat), some (0 : Nat), some (0 : Nat)), (0 : Int), (0 : Int), (0 : Int), (0 : Int)), false)) (T.ite (decide (x.2 ≥ (↑(List.length x.1.1) : Int))) (T.ret ((((some (0 : Nat), some (0 : Nat), some (0 : Nat)), some (0 : Nat), some (0 : Nat), some (0 : Nat)), (0 : Int), (0 : Int), (0 : Int), (0 : Int)), false)) (T.opt (lget x.1.1 x.2) fun y => T.ret (y, true)))
noncomputable def bvh_Tree_Node (x : ((List (((Option Nat × Option Nat × Option Nat) × Option Nat × Option Nat × Option Nat) × Int × Int × Int × Int)) × List (Int)) × Int) : Option ((((Option Nat × Option Nat × Option Nat) × Option Nat × Option Nat × Option Nat) × Int × Int × Int × Int) × Bool) := (bvh_Tree_Node.t x).run
noncomputable def bvh_Tree_Node.q : List AV → T AV := entry [(.ptr TTree), TI] (outR [TNode, .bool]) fun x => .opt (bvh_Tree_Node x) .ret
theorem bvh_Tree_Node.ok : FnOK Try.prog 19 bvh_Tree_Node.q :=
  entry_call (ps := [(.ptr TTree), TI]) (rs := [TNode, .bool]) (F := ({ quiet := Xs, deep := noDeep } : Fns)) (D := D0) (S := tabS []) (t := bvh_Tree_Node.t) mixed Xok (deep_none _) Try.func19 (by kernel_rfl) (sok_fn trivial) (by kernel_rfl) (fun x => by kernel_rfl)
end Go.Proofs.Pen

namespace Go.Proofs.Pen
open Go Go.Proofs
abbrev bvh_Tree_deep.Fun := (((List (((Option Nat × Option Nat × Option Nat) × Option Nat × Option Nat × Option Nat) × Int × Int × Int × Int)) × List (Int)) × Int) → Option (Int)
noncomputable def bvh_Tree_deep.qh (h : bvh_Tree_deep.Fun) : List AV → T AV := entry [(.ptr TTree), TI] (outR [TI]) fun x => .opt (h x) .ret
noncomputable def bvh_Tree_deep.fns (h : bvh_Tree_deep.Fun) : Fns := { quiet := (ext (ext Xs 19 bvh_Tree_Node.q) 31 (bvh_Tree_deep.qh h)), deep := noDeep }
noncomputable def bvh_Tree_deep.t (h : bvh_Tree_deep.Fun) (x : ((List (((Option Nat × Option Nat × Option Nat) × Option Nat × Option Nat × Option Nat) × Int × Int × Int × Int)) × List (Int)) × Int) : T (Int) := T.opt (bvh_Tree_Node x) fun y => T.ite (!y.2) (T.ret (0 : Int)) (T.ite (y.1.2.1 == (0 : Int)) (T.ret (1 : Int)) (T.opt (h (x.1, y.1.2.1)) fun y_1 => T.opt (h (x.1, y.1.2.2.1)) fun y => T.ret (W ((1 : Int) + if y > y_1 then y else y_1))))
noncomputable def bvh_Tree_deep.h : Nat → bvh_Tree_deep.Fun
  | 0, _ => none
  | d + 1, x => (bvh_Tree_deep.t (bvh_Tree_deep.h d) x).run
theorem bvh_Tree_deep.all : ∀ d, FnOK Try.prog 31 (bvh_Tree_deep.qh (bvh_Tree_deep.h d))
  | 0 => fun args v h => by
    exfalso
    unfold bvh_Tree_deep.qh entry at h
    split at h
    · obtain ⟨_, h1, _⟩ := run_bind h
      obtain ⟨_, h2, _⟩ := run_opt h1
      cases h2
    · exact run_fail h
  | d + 1 => entry_call (ps := [(.ptr TTree), TI]) (rs := [TI]) (F := bvh_Tree_deep.fns (bvh_Tree_deep.h d)) (D := D0) (S := noS) (t := bvh_Tree_deep.t (bvh_Tree_deep.h d)) mixed (quiet_ext (quiet_ext Xok bvh_Tree_Node.ok) (bvh_Tree_deep.all d)) (deep_none _) Try.func31 (by kernel_rfl) (fun c _ => sok_none _ 0 c) (by kernel_rfl) (fun x => by kernel_rfl)
noncomputable def bvh_Tree_deep (x : ((List (((Option Nat × Option Nat × Option Nat) × Option Nat × Option Nat × Option Nat) × Int × Int × Int × Int)) × List (Int)) × Int) : Option (Int) := bvh_Tree_deep.h 1000 x
noncomputable def bvh_Tree_deep.q : List AV → T AV := bvh_Tree_deep.qh bvh_Tree_deep
theorem bvh_Tree_deep.ok : FnOK Try.prog 31 bvh_Tree_deep.q := bvh_Tree_deep.all 1000
end Go.Proofs.Pen

namespace Go.Proofs.Pen
open Go Go.Proofs
noncomputable def bvh_Tree_Depth.t (x : ((List (((Option Nat × Option Nat × Option Nat) × Option Nat × Option Nat × Option Nat) × Int × Int × Int × Int)) × List (Int))) : T (Int) := T.opt (bvh_Tree_deep (x, (0 : Int))) fun y => T.ret y
noncomputable def bvh_Tree_Depth (x : ((List (((Option Nat × Option Nat × Option Nat) × Option Nat × Option Nat × Option Nat) × Int × Int × Int × Int)) × List (Int))) : Option (Int) := (bvh_Tree_Depth.t x).run
noncomputable def bvh_Tree_Depth.q : List AV → T AV := entry [(.ptr TTree)] (outR [TI]) fun x => .opt (bvh_Tree_Depth x) .ret
theorem bvh_Tree_Depth.ok : FnOK Try.prog 18 bvh_Tree_Depth.q :=
  entry_call (ps := [(.ptr TTree)]) (rs := [TI]) (F := ({ quiet := (ext Xs 31 bvh_Tree_deep.q), deep := noDeep } : Fns)) (D := D0) (S := tabS []) (t := bvh_Tree_Depth.t) mixed (quiet_ext Xok bvh_Tree_deep.ok) (deep_none _) Try.func18 (by kernel_rfl) (sok_fn trivial) (by kernel_rfl) (fun x => by kernel_rfl)
end Go.Proofs.Pen

namespace Go.Proofs.Pen
open Go Go.Proofs
noncomputable def bvh_Tree_Tri.t (x : ((List (((Option Nat × Option Nat × Option Nat) × Option Nat × Option Nat × Option Nat) × Int × Int × Int × Int)) × List (Int)) × Int) : T (Int) := T.ite (decide (x.2 < (0 : Int))) (T.ret (-1 : Int)) (T.ite (decide (x.2 ≥ (↑(List.length x.1.2) : Int))) (T.ret (-1 : Int)) (T.opt (lget x.1.2 x.2) fun y => T.ret y))
noncomputable def bvh_Tree_Tri (x : ((List (((Option Nat × Option Nat × Option Nat) × Option Nat × Option Nat × Option Nat) × Int × Int × Int × Int)) × List (Int)) × Int) : Option (Int) := (bvh_Tree_Tri.t x).run
noncomputable def bvh_Tree_Tri.q : List AV → T AV := entry [(.ptr TTree), TI] (outR [TI]) fun x => .opt (bvh_Tree_Tri x) .ret
theorem bvh_Tree_Tri.ok : FnOK Try.prog 20 bvh_Tree_Tri.q :=
  entry_call (ps := [(.ptr TTree), TI]) (rs := [TI]) (F := ({ quiet := Xs, deep := noDeep } : Fns)) (D := D0) (S := tabS []) (t := bvh_Tree_Tri.t) mixed Xok (deep_none _) Try.func20 (by kernel_rfl) (sok_fn trivial) (by kernel_rfl) (fun x => by kernel_rfl)
end Go.Proofs.Pen

namespace Go.Proofs.Pen
open Go Go.Proofs
def ref01_Ints.L0 : List (Nat × Lay) := [(0, .val (.sl TI)), (1, .val (.sl TI)), (4, .val .bool), (5, .val TI)]
noncomputable def ref01_Ints.t0 (x : (List (Int)) × (List (Int)) × Bool × Int × Unit) : T (Ex × (List (Int)) × (List (Int)) × Bool × Int × Unit) := T.ite (decide (x.2.2.2.1 < (↑(List.length x.1) : Int))) (T.opt (lget x.1 x.2.2.2.1) fun y => T.opt (lget x.2.1 x.2.2.2.1) fun y_1 => T.ite (y != y_1) (T.ret (Ex.ret, x.1, x.2.1, false, x.2.2.2.1, ())) (T.ret (Ex.normal, x.1, x.2.1, x.2.2.1, W (x.2.2.2.1 + (1 : Int)), ()))) (T.ret (Ex.exit (0 : Nat), x.1, x.2.1, x.2.2.1, x.2.2.2.1, ()))
noncomputable def ref01_Ints.l0 (x : (List (Int)) × (List (Int)) × Bool × Int × Unit) : Option (Ex × (List (Int)) × (List (Int)) × Bool × Int × Unit) := (iterT ref01_Ints.t0 rounds x).run
theorem ref01_Ints.k0 : bodies 0 (lp Try.f10 []) = [.loop (loopIn 0 (lp Try.f10 []))] ∧ WP Try.prog 0 (.block 0 (.loop (loopIn 0 (lp Try.f10 [])))) (loopS ref01_Ints.L0 26 0 [.exit 0, .ret] ref01_Ints.l0) :=
  loop_tree (L := ref01_Ints.L0) (F := ({ quiet := Xs, deep := noDeep } : Fns)) (D := D0) (tab := []) (t := ref01_Ints.t0) mixed Xok (deep_none _) (fun _ => rfl) (by kernel_rfl) (by kernel_rfl) trivial (fun x => by kernel_rfl)
noncomputable def ref01_Ints.t (x : (List (Int)) × (List (Int))) : T (Bool) := T.ite ((↑(List.length x.1) : Int) != (↑(List.length x.2) : Int)) (T.ret false) (T.opt (ref01_Ints.l0 (x.1, x.2, false, (0 : Int), ())) fun y => T.ite (exEq y.1 (Ex.exit (0 : Nat))) (T.ret true) (T.ite (exEq y.1 Ex.ret) (T.ret y.2.2.2.1) T.fail))
noncomputable def ref01_Ints (x : (List (Int)) × (List (Int))) : Option (Bool) := (ref01_Ints.t x).run
noncomputable def ref01_Ints.q : List AV → T AV := entry [(.sl TI), (.sl TI)] (outR [.bool]) fun x => .opt (ref01_Ints x) .ret
theorem ref01_Ints.ok : FnOK Try.prog 10 ref01_Ints.q :=
  entry_call (ps := [(.sl TI), (.sl TI)]) (rs := [.bool]) (F := ({ quiet := Xs, deep := noDeep } : Fns)) (D := D0) (S := tabS [(0, loopS ref01_Ints.L0 26 0 [.exit 0, .ret] ref01_Ints.l0)]) (t := ref01_Ints.t) mixed Xok (deep_none _) Try.func10 (by kernel_rfl) (sok_fn ⟨ref01_Ints.k0, trivial⟩) (by kernel_rfl) (fun x => by kernel_rfl)
end Go.Proofs.Pen

namespace Go.Proofs.Pen
open Go Go.Proofs
noncomputable def math_Inf.t (x : Int) : T ((Option Nat)) := T.ite (decide (x ≥ (0 : Int))) (T.ret (some (Int.toNat (9218868437227405312 : Int)))) (T.ret (some (Int.toNat (18442240474082181120 : Int))))
noncomputable def math_Inf (x : Int) : Option ((Option Nat)) := (math_Inf.t x).run
noncomputable def math_Inf.q : List AV → T AV := entry [TI] (outR [.flt]) fun x => .opt (math_Inf x) .ret
theorem math_Inf.ok : FnOK Try.prog 43 math_Inf.q :=
  entry_call (ps := [TI]) (rs := [.flt]) (F := ({ quiet := Xs, deep := noDeep } : Fns)) (D := D0) (S := tabS []) (t := math_Inf.t) mixed Xok (deep_none _) Try.func43 (by kernel_rfl) (sok_fn trivial) (by kernel_rfl) (fun x => by kernel_rfl)
end Go.Proofs.Pen

namespace Go.Proofs.Pen
open Go Go.Proofs
noncomputable def box_Empty.t (_ : Unit) : T (((Option Nat × Option Nat × Option Nat) × Option Nat × Option Nat × Option Nat)) := T.opt (math_Inf (1 : Int)) fun y => T.ret ((y, y, y), Option.map (Op.negFloat FloatKind.f64) y, Option.map (Op.negFloat FloatKind.f64) y, Option.map (Op.negFloat FloatKind.f64) y)
noncomputable def box_Empty (x : Unit) : Option (((Option Nat × Option Nat × Option Nat) × Option Nat × Option Nat × Option Nat)) := (box_Empty.t x).run
noncomputable def box_Empty.q : List AV → T AV := entry [] (outR [TBox]) fun x => .opt (box_Empty x) .ret
theorem box_Empty.ok : FnOK Try.prog 34 box_Empty.q :=
  entry_call (ps := []) (rs := [TBox]) (F := ({ quiet := (ext Xs 43 math_Inf.q), deep := noDeep } : Fns)) (D := D0) (S := tabS []) (t := box_Empty.t) mixed (quiet_ext Xok math_Inf.ok) (deep_none _) Try.func34 (by kernel_rfl) (sok_fn trivial) (by kernel_rfl) (fun x => by kernel_rfl)
end Go.Proofs.Pen

namespace Go.Proofs.Pen
open Go Go.Proofs
noncomputable def box_less.t (x : (Option Nat) × (Option Nat)) : T ((Option Nat)) := T.ite (ford x.2 x.1 == some Ordering.lt) (T.ret x.2) (T.ret x.1)
noncomputable def box_less (x : (Option Nat) × (Option Nat)) : Option ((Option Nat)) := (box_less.t x).run
noncomputable def box_less.q : List AV → T AV := entry [.flt, .flt] (outR [.flt]) fun x => .opt (box_less x) .ret
theorem box_less.ok : FnOK Try.prog 61 box_less.q :=
  entry_call (ps := [.flt, .flt]) (rs := [.flt]) (F := ({ quiet := Xs, deep := noDeep } : Fns)) (D := D0) (S := tabS []) (t := box_less.t) mixed Xok (deep_none _) Try.func61 (by kernel_rfl) (sok_fn trivial) (by kernel_rfl) (fun x => by kernel_rfl)
end Go.Proofs.Pen

namespace Go.Proofs.Pen
open Go Go.Proofs
noncomputable def box_more.t (x : (Option Nat) × (Option Nat)) : T ((Option Nat)) := T.ite (ford x.2 x.1 == some Ordering.gt) (T.ret x.2) (T.ret x.1)
noncomputable def box_more (x : (Option Nat) × (Option Nat)) : Option ((Option Nat)) := (box_more.t x).run
noncomputable def box_more.q : List AV → T AV := entry [.flt, .flt] (outR [.flt]) fun x => .opt (box_more x) .ret
theorem box_more.ok : FnOK Try.prog 62 box_more.q :=
  entry_call (ps := [.flt, .flt]) (rs := [.flt]) (F := ({ quiet := Xs, deep := noDeep } : Fns)) (D := D0) (S := tabS []) (t := box_more.t) mixed Xok (deep_none _) Try.func62 (by kernel_rfl) (sok_fn trivial) (by kernel_rfl) (fun x => by kernel_rfl)
end Go.Proofs.Pen

namespace Go.Proofs.Pen
open Go Go.Proofs
noncomputable def box_Join.t (x : ((Option Nat × Option Nat × Option Nat) × Option Nat × Option Nat × Option Nat) × ((Option Nat × Option Nat × Option Nat) × Option Nat × Option Nat × Option Nat)) : T (((Option Nat × Option Nat × Option Nat) × Option Nat × Option Nat × Option Nat)) := T.opt (box_less (x.1.1.1, x.2.1.1)) fun y => T.opt (box_less (x.1.1.2.1, x.2.1.2.1)) fun y_1 => T.opt (box_less (x.1.1.2.2, x.2.1.2.2)) fun y_2 => T.opt (box_more (x.1.2.1, x.2.2.1)) fun y_3 => T.opt (box_more (x.1.2.2.1, x.2.2.2.1)) fun y_4 => T.opt (box_more (x.1.2.2.2, x.2.2.2.2)) fun y_5 => T.ret ((y, y_1, y_2), y_3, y_4, y_5)
noncomputable def box_Join (x : ((Option Nat × Option Nat × Option Nat) × Option Nat × Option Nat × Option Nat) × ((Option Nat × Option Nat × Option Nat) × Option Nat × Option Nat × Option Nat)) : Option (((Option Nat × Option Nat × Option Nat) × Option Nat × Option Nat × Option Nat)) := (box_Join.t x).run
noncomputable def box_Join.q : List AV → T AV := entry [TBox, TBox] (outR [TBox]) fun x => .opt (box_Join x) .ret
theorem box_Join.ok : FnOK Try.prog 45 box_Join.q :=
  entry_call (ps := [TBox, TBox]) (rs := [TBox]) (F := ({ quiet := (ext (ext Xs 61 box_less.q) 62 box_more.q), deep := noDeep } : Fns)) (D := D0) (S := tabS []) (t := box_Join.t) mixed (quiet_ext (quiet_ext Xok box_less.ok) box_more.ok) (deep_none _) Try.func45 (by kernel_rfl) (sok_fn trivial) (by kernel_rfl) (fun x => by kernel_rfl)
end Go.Proofs.Pen

namespace Go.Proofs.Pen
open Go Go.Proofs
def bvh_builder_around.L0 : List (Nat × Lay) := [(0, .val (.ptr TBld)), (4, .box TBox), (5, .box TBox), (9, .val (.sl TI)), (10, .val TI), (11, .val TI)]
noncomputable def bvh_builder_around.t0 (x : ((List ((Option Nat × Option Nat × Option Nat) × Option Nat × Option Nat × Option Nat)) × (List (Option Nat × Option Nat × Option Nat)) × Bool × (List (((Option Nat × Option Nat × Option Nat) × Option Nat × Option Nat × Option Nat) × Int × Int × Int × Int)) × List (Int)) × ((Option Nat × Option Nat × Option Nat) × Option Nat × Option Nat × Option Nat) × ((Option Nat × Option Nat × Option Nat) × Option Nat × Option Nat × Option Nat) × (List (Int)) × Int × Int × Unit) : T (Ex × ((List ((Option Nat × Option Nat × Option Nat) × Option Nat × Option Nat × Option Nat)) × (List (Option Nat × Option Nat × Option Nat)) × Bool × (List (((Option Nat × Option Nat × Option Nat) × Option Nat × Option Nat × Option Nat) × Int × Int × Int × Int)) × List (Int)) × ((Option Nat × Option Nat × Option Nat) × Option Nat × Option Nat × Option Nat) × ((Option Nat × Option Nat × Option Nat) × Option Nat × Option Nat × Option Nat) × (List (Int)) × Int × Int × Unit) := T.ite (decide (x.2.2.2.2.2.1 < x.2.2.2.2.1)) (T.opt (lget x.2.2.2.1 x.2.2.2.2.2.1) fun y => T.opt (lget x.1.1 y) fun y => T.opt (box_Join (x.2.2.1, y)) fun y => T.ret (Ex.normal, x.1, x.2.1, y, x.2.2.2.1, x.2.2.2.2.1, W (x.2.2.2.2.2.1 + (1 : Int)), ())) (T.ret (Ex.exit (0 : Nat), x.1, x.2.1, x.2.2.1, x.2.2.2.1, x.2.2.2.2.1, x.2.2.2.2.2.1, ()))
noncomputable def bvh_builder_around.l0 (x : ((List ((Option Nat × Option Nat × Option Nat) × Option Nat × Option Nat × Option Nat)) × (List (Option Nat × Option Nat × Option Nat)) × Bool × (List (((Option Nat × Option Nat × Option Nat) × Option Nat × Option Nat × Option Nat) × Int × Int × Int × Int)) × List (Int)) × ((Option Nat × Option Nat × Option Nat) × Option Nat × Option Nat × Option Nat) × ((Option Nat × Option Nat × Option Nat) × Option Nat × Option Nat × Option Nat) × (List (Int)) × Int × Int × Unit) : Option (Ex × ((List ((Option Nat × Option Nat × Option Nat) × Option Nat × Option Nat × Option Nat)) × (List (Option Nat × Option Nat × Option Nat)) × Bool × (List (((Option Nat × Option Nat × Option Nat) × Option Nat × Option Nat × Option Nat) × Int × Int × Int × Int)) × List (Int)) × ((Option Nat × Option Nat × Option Nat) × Option Nat × Option Nat × Option Nat) × ((Option Nat × Option Nat × Option Nat) × Option Nat × Option Nat × Option Nat) × (List (Int)) × Int × Int × Unit) := (iterT bvh_builder_around.t0 rounds x).run
theorem bvh_builder_around.k0 : bodies 0 (lp Try.f37 []) = [.loop (loopIn 0 (lp Try.f37 []))] ∧ WP Try.prog 0 (.block 0 (.loop (loopIn 0 (lp Try.f37 [])))) (loopS bvh_builder_around.L0 26 0 [.exit 0] bvh_builder_around.l0) :=
  loop_tree (L := bvh_builder_around.L0) (F := ({ quiet := (ext (ext Xs 34 box_Empty.q) 45 box_Join.q), deep := noDeep } : Fns)) (D := D0) (tab := []) (t := bvh_builder_around.t0) mixed (quiet_ext (quiet_ext Xok box_Empty.ok) box_Join.ok) (deep_none _) (fun _ => rfl) (by kernel_rfl) (by kernel_rfl) trivial (fun x => by kernel_rfl)
noncomputable def bvh_builder_around.t (x : ((List ((Option Nat × Option Nat × Option Nat) × Option Nat × Option Nat × Option Nat)) × (List (Option Nat × Option Nat × Option Nat)) × Bool × (List (((Option Nat × Option Nat × Option Nat) × Option Nat × Option Nat × Option Nat) × Int × Int × Int × Int)) × List (Int)) × (List (Int))) : T (((Option Nat × Option Nat × Option Nat) × Option Nat × Option Nat × Option Nat)) := T.opt (box_Empty ()) fun y => T.opt (bvh_builder_around.l0 (x.1, ((some (0 : Nat), some (0 : Nat), some (0 : Nat)), some (0 : Nat), some (0 : Nat), some (0 : Nat)), y, x.2, (↑(List.length x.2) : Int), (0 : Int), ())) fun y => T.ite (exEq y.1 (Ex.exit (0 : Nat))) (T.ret y.2.2.2.1) T.fail
noncomputable def bvh_builder_around (x : ((List ((Option Nat × Option Nat × Option Nat) × Option Nat × Option Nat × Option Nat)) × (List (Option Nat × Option Nat × Option Nat)) × Bool × (List (((Option Nat × Option Nat × Option Nat) × Option Nat × Option Nat × Option Nat) × Int × Int × Int × Int)) × List (Int)) × (List (Int))) : Option (((Option Nat × Option Nat × Option Nat) × Option Nat × Option Nat × Option Nat)) := (bvh_builder_around.t x).run
noncomputable def bvh_builder_around.q : List AV → T AV := entry [(.ptr TBld), (.sl TI)] (outR [TBox]) fun x => .opt (bvh_builder_around x) .ret
theorem bvh_builder_around.ok : FnOK Try.prog 37 bvh_builder_around.q :=
  entry_call (ps := [(.ptr TBld), (.sl TI)]) (rs := [TBox]) (F := ({ quiet := (ext (ext Xs 34 box_Empty.q) 45 box_Join.q), deep := noDeep } : Fns)) (D := D0) (S := tabS [(0, loopS bvh_builder_around.L0 26 0 [.exit 0] bvh_builder_around.l0)]) (t := bvh_builder_around.t) mixed (quiet_ext (quiet_ext Xok box_Empty.ok) box_Join.ok) (deep_none _) Try.func37 (by kernel_rfl) (sok_fn ⟨bvh_builder_around.k0, trivial⟩) (by kernel_rfl) (fun x => by kernel_rfl)
end Go.Proofs.Pen

namespace Go.Proofs.Pen
open Go Go.Proofs
noncomputable def box_Grow.t (x : ((Option Nat × Option Nat × Option Nat) × Option Nat × Option Nat × Option Nat) × (Option Nat × Option Nat × Option Nat)) : T (((Option Nat × Option Nat × Option Nat) × Option Nat × Option Nat × Option Nat)) := T.opt (box_Join (x.1, x.2, x.2)) fun y => T.ret y
noncomputable def box_Grow (x : ((Option Nat × Option Nat × Option Nat) × Option Nat × Option Nat × Option Nat) × (Option Nat × Option Nat × Option Nat)) : Option (((Option Nat × Option Nat × Option Nat) × Option Nat × Option Nat × Option Nat)) := (box_Grow.t x).run
noncomputable def box_Grow.q : List AV → T AV := entry [TBox, TV] (outR [TBox]) fun x => .opt (box_Grow x) .ret
theorem box_Grow.ok : FnOK Try.prog 33 box_Grow.q :=
  entry_call (ps := [TBox, TV]) (rs := [TBox]) (F := ({ quiet := (ext Xs 45 box_Join.q), deep := noDeep } : Fns)) (D := D0) (S := tabS []) (t := box_Grow.t) mixed (quiet_ext Xok box_Join.ok) (deep_none _) Try.func33 (by kernel_rfl) (sok_fn trivial) (by kernel_rfl) (fun x => by kernel_rfl)
end Go.Proofs.Pen

namespace Go.Proofs.Pen
open Go Go.Proofs
def bvh_builder_middles.L0 : List (Nat × Lay) := [(0, .val (.ptr TBld)), (4, .box TBox), (5, .box TBox), (9, .val (.sl TI)), (10, .val TI), (11, .val TI)]
noncomputable def bvh_builder_middles.t0 (x : ((List ((Option Nat × Option Nat × Option Nat) × Option Nat × Option Nat × Option Nat)) × (List (Option Nat × Option Nat × Option Nat)) × Bool × (List (((Option Nat × Option Nat × Option Nat) × Option Nat × Option Nat × Option Nat) × Int × Int × Int × Int)) × List (Int)) × ((Option Nat × Option Nat × Option Nat) × Option Nat × Option Nat × Option Nat) × ((Option Nat × Option Nat × Option Nat) × Option Nat × Option Nat × Option Nat) × (List (Int)) × Int × Int × Unit) : T (Ex × ((List ((Option Nat × Option Nat × Option Nat) × Option Nat × Option Nat × Option Nat)) × (List (Option Nat × Option Nat × Option Nat)) × Bool × (List (((Option Nat × Option Nat × Option Nat) × Option Nat × Option Nat × Option Nat) × Int × Int × Int × Int)) × List (Int)) × ((Option Nat × Option Nat × Option Nat) × Option Nat × Option Nat × Option Nat) × ((Option Nat × Option Nat × Option Nat) × Option Nat × Option Nat × Option Nat) × (List (Int)) × Int × Int × Unit) := T.ite (decide (x.2.2.2.2.2.1 < x.2.2.2.2.1)) (T.opt (lget x.2.2.2.1 x.2.2.2.2.2.1) fun y => T.opt (lget x.1.2.1 y) fun y => T.opt (box_Grow (x.2.2.1, y)) fun y => T.ret (Ex.normal, x.1, x.2.1, y, x.2.2.2.1, x.2.2.2.2.1, W (x.2.2.2.2.2.1 + (1 : Int)), ())) (T.ret (Ex.exit (0 : Nat), x.1, x.2.1, x.2.2.1, x.2.2.2.1, x.2.2.2.2.1, x.2.2.2.2.2.1, ()))
noncomputable def bvh_builder_middles.l0 (x : ((List ((Option Nat × Option Nat × Option Nat) × Option Nat × Option Nat × Option Nat)) × (List (Option Nat × Option Nat × Option Nat)) × Bool × (List (((Option Nat × Option Nat × Option Nat) × Option Nat × Option Nat × Option Nat) × Int × Int × Int × Int)) × List (Int)) × ((Option Nat × Option Nat × Option Nat) × Option Nat × Option Nat × Option Nat) × ((Option Nat × Option Nat × Option Nat) × Option Nat × Option Nat × Option Nat) × (List (Int)) × Int × Int × Unit) : Option (Ex × ((List ((Option Nat × Option Nat × Option Nat) × Option Nat × Option Nat × Option Nat)) × (List (Option Nat × Option Nat × Option Nat)) × Bool × (List (((Option Nat × Option Nat × Option Nat) × Option Nat × Option Nat × Option Nat) × Int × Int × Int × Int)) × List (Int)) × ((Option Nat × Option Nat × Option Nat) × Option Nat × Option Nat × Option Nat) × ((Option Nat × Option Nat × Option Nat) × Option Nat × Option Nat × Option Nat) × (List (Int)) × Int × Int × Unit) := (iterT bvh_builder_middles.t0 rounds x).run
theorem bvh_builder_middles.k0 : bodies 0 (lp Try.f39 []) = [.loop (loopIn 0 (lp Try.f39 []))] ∧ WP Try.prog 0 (.block 0 (.loop (loopIn 0 (lp Try.f39 [])))) (loopS bvh_builder_middles.L0 26 0 [.exit 0] bvh_builder_middles.l0) :=
  loop_tree (L := bvh_builder_middles.L0) (F := ({ quiet := (ext (ext Xs 34 box_Empty.q) 33 box_Grow.q), deep := noDeep } : Fns)) (D := D0) (tab := []) (t := bvh_builder_middles.t0) mixed (quiet_ext (quiet_ext Xok box_Empty.ok) box_Grow.ok) (deep_none _) (fun _ => rfl) (by kernel_rfl) (by kernel_rfl) trivial (fun x => by kernel_rfl)
noncomputable def bvh_builder_middles.t (x : ((List ((Option Nat × Option Nat × Option Nat) × Option Nat × Option Nat × Option Nat)) × (List (Option Nat × Option Nat × Option Nat)) × Bool × (List (((Option Nat × Option Nat × Option Nat) × Option Nat × Option Nat × Option Nat) × Int × Int × Int × Int)) × List (Int)) × (List (Int))) : T (((Option Nat × Option Nat × Option Nat) × Option Nat × Option Nat × Option Nat)) := T.opt (box_Empty ()) fun y => T.opt (bvh_builder_middles.l0 (x.1, ((some (0 : Nat), some (0 : Nat), some (0 : Nat)), some (0 : Nat), some (0 : Nat), some (0 : Nat)), y, x.2, (↑(List.length x.2) : Int), (0 : Int), ())) fun y => T.ite (exEq y.1 (Ex.exit (0 : Nat))) (T.ret y.2.2.2.1) T.fail
noncomputable def bvh_builder_middles (x : ((List ((Option Nat × Option Nat × Option Nat) × Option Nat × Option Nat × Option Nat)) × (List (Option Nat × Option Nat × Option Nat)) × Bool × (List (((Option Nat × Option Nat × Option Nat) × Option Nat × Option Nat × Option Nat) × Int × Int × Int × Int)) × List (Int)) × (List (Int))) : Option (((Option Nat × Option Nat × Option Nat) × Option Nat × Option Nat × Option Nat)) := (bvh_builder_middles.t x).run
noncomputable def bvh_builder_middles.q : List AV → T AV := entry [(.ptr TBld), (.sl TI)] (outR [TBox]) fun x => .opt (bvh_builder_middles x) .ret
theorem bvh_builder_middles.ok : FnOK Try.prog 39 bvh_builder_middles.q :=
  entry_call (ps := [(.ptr TBld), (.sl TI)]) (rs := [TBox]) (F := ({ quiet := (ext (ext Xs 34 box_Empty.q) 33 box_Grow.q), deep := noDeep } : Fns)) (D := D0) (S := tabS [(0, loopS bvh_builder_middles.L0 26 0 [.exit 0] bvh_builder_middles.l0)]) (t := bvh_builder_middles.t) mixed (quiet_ext (quiet_ext Xok box_Empty.ok) box_Grow.ok) (deep_none _) Try.func39 (by kernel_rfl) (sok_fn ⟨bvh_builder_middles.k0, trivial⟩) (by kernel_rfl) (fun x => by kernel_rfl)
end Go.Proofs.Pen

namespace Go.Proofs.Pen
open Go Go.Proofs
noncomputable def vec_Add_1.t (x : (Option Nat) × (Option Nat)) : T ((Option Nat)) := T.ret (fop BinOp.add x.1 x.2)
noncomputable def vec_Add_1.q : List AV → T AV := entry [.flt, .flt] (outR [.flt]) vec_Add_1.t
theorem vec_Add_1.ok : FnOK Try.prog 48 vec_Add_1.q :=
  entry_in (ps := [.flt, .flt]) (rs := [.flt]) (F := ({ quiet := Xs, deep := noDeep } : Fns)) (D := D0) (S := tabS []) (t := vec_Add_1.t) mixed Xok (deep_none _) Try.func48 (by kernel_rfl) (sok_fn trivial) (by kernel_rfl) (fun x => by kernel_rfl)
end Go.Proofs.Pen

namespace Go.Proofs.Pen
open Go Go.Proofs
noncomputable def vec_Sub_1.t (x : (Option Nat) × (Option Nat)) : T ((Option Nat)) := T.ret (fop BinOp.sub x.1 x.2)
noncomputable def vec_Sub_1.q : List AV → T AV := entry [.flt, .flt] (outR [.flt]) vec_Sub_1.t
theorem vec_Sub_1.ok : FnOK Try.prog 75 vec_Sub_1.q :=
  entry_in (ps := [.flt, .flt]) (rs := [.flt]) (F := ({ quiet := Xs, deep := noDeep } : Fns)) (D := D0) (S := tabS []) (t := vec_Sub_1.t) mixed Xok (deep_none _) Try.func75 (by kernel_rfl) (sok_fn trivial) (by kernel_rfl) (fun x => by kernel_rfl)
end Go.Proofs.Pen

namespace Go.Proofs.Pen
open Go Go.Proofs
noncomputable def vec_Mul_1.t (x : (Option Nat) × (Option Nat)) : T ((Option Nat)) := T.ret (fop BinOp.mul x.1 x.2)
noncomputable def vec_Mul_1.q : List AV → T AV := entry [.flt, .flt] (outR [.flt]) vec_Mul_1.t
theorem vec_Mul_1.ok : FnOK Try.prog 63 vec_Mul_1.q :=
  entry_in (ps := [.flt, .flt]) (rs := [.flt]) (F := ({ quiet := Xs, deep := noDeep } : Fns)) (D := D0) (S := tabS []) (t := vec_Mul_1.t) mixed Xok (deep_none _) Try.func63 (by kernel_rfl) (sok_fn trivial) (by kernel_rfl) (fun x => by kernel_rfl)
end Go.Proofs.Pen

namespace Go.Proofs.Pen
open Go Go.Proofs
noncomputable def eachSub.t (x : (Option Nat × Option Nat × Option Nat) × (Option Nat × Option Nat × Option Nat) × Unit) : T ((Option Nat × Option Nat × Option Nat)) := T.ret (fop BinOp.sub x.1.1 x.2.1.1, fop BinOp.sub x.1.2.1 x.2.1.2.1, fop BinOp.sub x.1.2.2 x.2.1.2.2)
noncomputable def eachSub.q : List AV → T AV := entry [TV, TV, (.clo 75 .unit)] (outR [TV]) eachSub.t
theorem eachSub.ok : FnOK Try.prog 47 eachSub.q :=
  entry_in (ps := [TV, TV, (.clo 75 .unit)]) (rs := [TV]) (F := ({ quiet := (ext (ext (ext Xs 48 vec_Add_1.q) 75 vec_Sub_1.q) 63 vec_Mul_1.q), deep := noDeep } : Fns)) (D := D0) (S := tabS []) (t := eachSub.t) mixed (quiet_ext (quiet_ext (quiet_ext Xok vec_Add_1.ok) vec_Sub_1.ok) vec_Mul_1.ok) (deep_none _) Try.func47 (by kernel_rfl) (sok_fn trivial) (by kernel_rfl) (fun x => by kernel_rfl)
end Go.Proofs.Pen

namespace Go.Proofs.Pen
open Go Go.Proofs
noncomputable def vec_Sub.t (x : (Option Nat × Option Nat × Option Nat) × (Option Nat × Option Nat × Option Nat)) : T ((Option Nat × Option Nat × Option Nat)) := T.ret (fop BinOp.sub x.1.1 x.2.1, fop BinOp.sub x.1.2.1 x.2.2.1, fop BinOp.sub x.1.2.2 x.2.2.2)
noncomputable def vec_Sub (x : (Option Nat × Option Nat × Option Nat) × (Option Nat × Option Nat × Option Nat)) : Option ((Option Nat × Option Nat × Option Nat)) := (vec_Sub.t x).run
noncomputable def vec_Sub.q : List AV → T AV := entry [TV, TV] (outR [TV]) fun x => .opt (vec_Sub x) .ret
theorem vec_Sub.ok : FnOK Try.prog 51 vec_Sub.q :=
  entry_call (ps := [TV, TV]) (rs := [TV]) (F := ({ quiet := (ext Xs 47 eachSub.q), deep := noDeep } : Fns)) (D := D0) (S := tabS []) (t := vec_Sub.t) mixed (quiet_ext Xok eachSub.ok) (deep_none _) Try.func51 (by kernel_rfl) (sok_fn trivial) (by kernel_rfl) (fun x => by kernel_rfl)
end Go.Proofs.Pen

namespace Go.Proofs.Pen
open Go Go.Proofs
noncomputable def vec_Part.t (x : (Option Nat × Option Nat × Option Nat) × Int) : T ((Option Nat)) := T.ite (x.2 == (0 : Int)) (T.ret x.1.1) (T.ite (x.2 == (1 : Int)) (T.ret x.1.2.1) (T.ret x.1.2.2))
noncomputable def vec_Part (x : (Option Nat × Option Nat × Option Nat) × Int) : Option ((Option Nat)) := (vec_Part.t x).run
noncomputable def vec_Part.q : List AV → T AV := entry [TV, TI] (outR [.flt]) fun x => .opt (vec_Part x) .ret
theorem vec_Part.ok : FnOK Try.prog 32 vec_Part.q :=
  entry_call (ps := [TV, TI]) (rs := [.flt]) (F := ({ quiet := Xs, deep := noDeep } : Fns)) (D := D0) (S := tabS []) (t := vec_Part.t) mixed Xok (deep_none _) Try.func32 (by kernel_rfl) (sok_fn trivial) (by kernel_rfl) (fun x => by kernel_rfl)
end Go.Proofs.Pen

namespace Go.Proofs.Pen
open Go Go.Proofs
def box_Longest.L0 : List (Nat × Lay) := [(3, .box TV), (4, .val TI), (14, .val TI)]
noncomputable def box_Longest.t0 (x : (Option Nat × Option Nat × Option Nat) × Int × Int × Unit) : T (Ex × (Option Nat × Option Nat × Option Nat) × Int × Int × Unit) := T.ite (decide (x.2.2.1 < (3 : Int))) (T.opt (vec_Part (x.1, x.2.2.1)) fun y => T.opt (vec_Part (x.1, x.2.1)) fun y_1 => T.ite (ford y y_1 == some Ordering.gt) (T.ret (Ex.normal, x.1, x.2.2.1, W (x.2.2.1 + (1 : Int)), ())) (T.ret (Ex.normal, x.1, x.2.1, W (x.2.2.1 + (1 : Int)), ()))) (T.ret (Ex.exit (0 : Nat), x.1, x.2.1, x.2.2.1, ()))
noncomputable def box_Longest.l0 (x : (Option Nat × Option Nat × Option Nat) × Int × Int × Unit) : Option (Ex × (Option Nat × Option Nat × Option Nat) × Int × Int × Unit) := (iterT box_Longest.t0 rounds x).run
theorem box_Longest.k0 : bodies 0 (lp Try.f40 []) = [.loop (loopIn 0 (lp Try.f40 []))] ∧ WP Try.prog 0 (.block 0 (.loop (loopIn 0 (lp Try.f40 [])))) (loopS box_Longest.L0 27 0 [.exit 0] box_Longest.l0) :=
  loop_tree (L := box_Longest.L0) (F := ({ quiet := (ext (ext (ext (ext Xs 34 box_Empty.q) 51 vec_Sub.q) 32 vec_Part.q) 75 vec_Sub_1.q), deep := noDeep } : Fns)) (D := D0) (tab := []) (t := box_Longest.t0) mixed (quiet_ext (quiet_ext (quiet_ext (quiet_ext Xok box_Empty.ok) vec_Sub.ok) vec_Part.ok) vec_Sub_1.ok) (deep_none _) (fun _ => rfl) (by kernel_rfl) (by kernel_rfl) trivial (fun x => by kernel_rfl)
noncomputable def box_Longest.t (x : ((Option Nat × Option Nat × Option Nat) × Option Nat × Option Nat × Option Nat)) : T (Int) := T.opt (box_Empty ()) fun y => T.ite (ford x.1.1 y.1.1 == some Ordering.eq && (ford x.1.2.1 y.1.2.1 == some Ordering.eq && ford x.1.2.2 y.1.2.2 == some Ordering.eq) && (ford x.2.1 y.2.1 == some Ordering.eq && (ford x.2.2.1 y.2.2.1 == some Ordering.eq && ford x.2.2.2 y.2.2.2 == some Ordering.eq))) (T.ret (0 : Int)) (T.opt (vec_Sub (x.2, x.1)) fun y => T.opt (box_Longest.l0 (y, (0 : Int), (0 : Int), ())) fun y => T.ite (exEq y.1 (Ex.exit (0 : Nat))) (T.ret y.2.2.1) T.fail)
noncomputable def box_Longest (x : ((Option Nat × Option Nat × Option Nat) × Option Nat × Option Nat × Option Nat)) : Option (Int) := (box_Longest.t x).run
noncomputable def box_Longest.q : List AV → T AV := entry [TBox] (outR [TI]) fun x => .opt (box_Longest x) .ret
theorem box_Longest.ok : FnOK Try.prog 40 box_Longest.q :=
  entry_call (ps := [TBox]) (rs := [TI]) (F := ({ quiet := (ext (ext (ext (ext Xs 34 box_Empty.q) 51 vec_Sub.q) 32 vec_Part.q) 75 vec_Sub_1.q), deep := noDeep } : Fns)) (D := D0) (S := tabS [(0, loopS box_Longest.L0 27 0 [.exit 0] box_Longest.l0)]) (t := box_Longest.t) mixed (quiet_ext (quiet_ext (quiet_ext (quiet_ext Xok box_Empty.ok) vec_Sub.ok) vec_Part.ok) vec_Sub_1.ok) (deep_none _) Try.func40 (by kernel_rfl) (sok_fn ⟨box_Longest.k0, trivial⟩) (by kernel_rfl) (fun x => by kernel_rfl)
end Go.Proofs.Pen

namespace Go.Proofs.Pen
open Go Go.Proofs
noncomputable def bvh_builder_bin.t (x : ((List ((Option Nat × Option Nat × Option Nat) × Option Nat × Option Nat × Option Nat)) × (List (Option Nat × Option Nat × Option Nat)) × Bool × (List (((Option Nat × Option Nat × Option Nat) × Option Nat × Option Nat × Option Nat) × Int × Int × Int × Int)) × List (Int)) × Int × Int × ((Option Nat × Option Nat × Option Nat) × Option Nat × Option Nat × Option Nat)) : T (Int) := T.opt (vec_Part (x.2.2.2.1, x.2.2.1)) fun y => T.opt (vec_Part (x.2.2.2.2, x.2.2.1)) fun y_1 => T.opt (lget x.1.2.1 x.2.1) fun y_2 => T.opt (vec_Part (y_2, x.2.2.1)) fun y_3 => T.opt (f2i IntKind.i64 (fop BinOp.mul (some (4620693217682128896 : Nat)) (fop BinOp.quo (fop BinOp.sub y_3 y) (fop BinOp.sub y_1 y)))) fun y => T.ret (if (7 : Int) < y then (7 : Int) else y)
noncomputable def bvh_builder_bin (x : ((List ((Option Nat × Option Nat × Option Nat) × Option Nat × Option Nat × Option Nat)) × (List (Option Nat × Option Nat × Option Nat)) × Bool × (List (((Option Nat × Option Nat × Option Nat) × Option Nat × Option Nat × Option Nat) × Int × Int × Int × Int)) × List (Int)) × Int × Int × ((Option Nat × Option Nat × Option Nat) × Option Nat × Option Nat × Option Nat)) : Option (Int) := (bvh_builder_bin.t x).run
noncomputable def bvh_builder_bin.q : List AV → T AV := entry [(.ptr TBld), TI, TI, TBox] (outR [TI]) fun x => .opt (bvh_builder_bin x) .ret
theorem bvh_builder_bin.ok : FnOK Try.prog 52 bvh_builder_bin.q :=
  entry_call (ps := [(.ptr TBld), TI, TI, TBox]) (rs := [TI]) (F := ({ quiet := (ext Xs 32 vec_Part.q), deep := noDeep } : Fns)) (D := D0) (S := tabS []) (t := bvh_builder_bin.t) mixed (quiet_ext Xok vec_Part.ok) (deep_none _) Try.func52 (by kernel_rfl) (sok_fn trivial) (by kernel_rfl) (fun x => by kernel_rfl)
end Go.Proofs.Pen

namespace Go.Proofs.Pen
open Go Go.Proofs
noncomputable def box_Half.t (x : ((Option Nat × Option Nat × Option Nat) × Option Nat × Option Nat × Option Nat)) : T ((Option Nat)) := T.opt (vec_Sub (x.2, x.1)) fun y => T.ret (fop BinOp.add (fop BinOp.add (fop BinOp.mul y.1 y.2.1) (fop BinOp.mul y.2.1 y.2.2)) (fop BinOp.mul y.2.2 y.1))
noncomputable def box_Half (x : ((Option Nat × Option Nat × Option Nat) × Option Nat × Option Nat × Option Nat)) : Option ((Option Nat)) := (box_Half.t x).run
noncomputable def box_Half.q : List AV → T AV := entry [TBox] (outR [.flt]) fun x => .opt (box_Half x) .ret
theorem box_Half.ok : FnOK Try.prog 76 box_Half.q :=
  entry_call (ps := [TBox]) (rs := [.flt]) (F := ({ quiet := (ext (ext Xs 51 vec_Sub.q) 75 vec_Sub_1.q), deep := noDeep } : Fns)) (D := D0) (S := tabS []) (t := box_Half.t) mixed (quiet_ext (quiet_ext Xok vec_Sub.ok) vec_Sub_1.ok) (deep_none _) Try.func76 (by kernel_rfl) (sok_fn trivial) (by kernel_rfl) (fun x => by kernel_rfl)
end Go.Proofs.Pen

namespace Go.Proofs.Pen
open Go Go.Proofs
noncomputable def bvh_builder_cost.t (x : ((List ((Option Nat × Option Nat × Option Nat) × Option Nat × Option Nat × Option Nat)) × (List (Option Nat × Option Nat × Option Nat)) × Bool × (List (((Option Nat × Option Nat × Option Nat) × Option Nat × Option Nat × Option Nat) × Int × Int × Int × Int)) × List (Int)) × (List (Int)) × (List (Int))) : T ((Option Nat)) := T.opt (bvh_builder_around (x.1, x.2.1)) fun y => T.opt (box_Half y) fun y => T.opt (bvh_builder_around (x.1, x.2.2)) fun y_1 => T.opt (box_Half y_1) fun y_2 => T.ret (fop BinOp.add (fop BinOp.mul y (some (FloatKind.f64.nearest (↑(List.length x.2.1) : Int)))) (fop BinOp.mul y_2 (some (FloatKind.f64.nearest (↑(List.length x.2.2) : Int)))))
noncomputable def bvh_builder_cost (x : ((List ((Option Nat × Option Nat × Option Nat) × Option Nat × Option Nat × Option Nat)) × (List (Option Nat × Option Nat × Option Nat)) × Bool × (List (((Option Nat × Option Nat × Option Nat) × Option Nat × Option Nat × Option Nat) × Int × Int × Int × Int)) × List (Int)) × (List (Int)) × (List (Int))) : Option ((Option Nat)) := (bvh_builder_cost.t x).run
noncomputable def bvh_builder_cost.q : List AV → T AV := entry [(.ptr TBld), (.sl TI), (.sl TI)] (outR [.flt]) fun x => .opt (bvh_builder_cost x) .ret
theorem bvh_builder_cost.ok : FnOK Try.prog 53 bvh_builder_cost.q :=
  entry_call (ps := [(.ptr TBld), (.sl TI), (.sl TI)]) (rs := [.flt]) (F := ({ quiet := (ext (ext (ext Xs 37 bvh_builder_around.q) 76 box_Half.q) 75 vec_Sub_1.q), deep := noDeep } : Fns)) (D := D0) (S := tabS []) (t := bvh_builder_cost.t) mixed (quiet_ext (quiet_ext (quiet_ext Xok bvh_builder_around.ok) box_Half.ok) vec_Sub_1.ok) (deep_none _) Try.func53 (by kernel_rfl) (sok_fn trivial) (by kernel_rfl) (fun x => by kernel_rfl)
end Go.Proofs.Pen

namespace Go.Proofs.Pen
open Go Go.Proofs
noncomputable def bvh_builder_median_1.t (x : Int × ((List ((Option Nat × Option Nat × Option Nat) × Option Nat × Option Nat × Option Nat)) × (List (Option Nat × Option Nat × Option Nat)) × Bool × (List (((Option Nat × Option Nat × Option Nat) × Option Nat × Option Nat × Option Nat) × Int × Int × Int × Int)) × List (Int)) × Int) : T ((Option Nat)) := T.opt (lget x.2.1.2.1 x.1) fun y => T.opt (vec_Part (y, x.2.2)) fun y => T.ret y
noncomputable def bvh_builder_median_1 (x : Int × ((List ((Option Nat × Option Nat × Option Nat) × Option Nat × Option Nat × Option Nat)) × (List (Option Nat × Option Nat × Option Nat)) × Bool × (List (((Option Nat × Option Nat × Option Nat) × Option Nat × Option Nat × Option Nat) × Int × Int × Int × Int)) × List (Int)) × Int) : Option ((Option Nat)) := (bvh_builder_median_1.t x).run
noncomputable def bvh_builder_median_1.q : List AV → T AV := entry [TI, (.ptr (.ptr TBld)), (.ptr TI)] (outR [.flt]) fun x => .opt (bvh_builder_median_1 x) .ret
theorem bvh_builder_median_1.ok : FnOK Try.prog 54 bvh_builder_median_1.q :=
  entry_call (ps := [TI, (.ptr (.ptr TBld)), (.ptr TI)]) (rs := [.flt]) (F := ({ quiet := (ext Xs 32 vec_Part.q), deep := noDeep } : Fns)) (D := D0) (S := tabS []) (t := bvh_builder_median_1.t) mixed (quiet_ext Xok vec_Part.ok) (deep_none _) Try.func54 (by kernel_rfl) (sok_fn trivial) (by kernel_rfl) (fun x => by kernel_rfl)
end Go.Proofs.Pen

namespace Go.Proofs.Pen
open Go Go.Proofs
noncomputable def NanF.t (x : (Option Nat)) : T (Bool) := T.ret (ford x x != some Ordering.eq)
noncomputable def NanF.q : List AV → T AV := entry [.flt] (outR [.bool]) NanF.t
theorem NanF.ok : FnOK Try.prog 78 NanF.q :=
  entry_in (ps := [.flt]) (rs := [.bool]) (F := ({ quiet := Xs, deep := noDeep } : Fns)) (D := D0) (S := tabS []) (t := NanF.t) mixed Xok (deep_none _) Try.func78 (by kernel_rfl) (sok_fn trivial) (by kernel_rfl) (fun x => by kernel_rfl)
end Go.Proofs.Pen

namespace Go.Proofs.Pen
open Go Go.Proofs
noncomputable def CmpF.t (x : (Option Nat) × (Option Nat)) : T (Int) := T.ite (ford x.1 x.1 != some Ordering.eq) (T.ite (ford x.2 x.2 != some Ordering.eq) (T.ret (0 : Int)) (T.ret (-1 : Int))) (T.ite (ford x.2 x.2 != some Ordering.eq) (T.ret (1 : Int)) (T.ite (ford x.1 x.2 == some Ordering.lt) (T.ret (-1 : Int)) (T.ite (ford x.1 x.2 == some Ordering.gt) (T.ret (1 : Int)) (T.ret (0 : Int)))))
noncomputable def CmpF (x : (Option Nat) × (Option Nat)) : Option (Int) := (CmpF.t x).run
noncomputable def CmpF.q : List AV → T AV := entry [.flt, .flt] (outR [TI]) fun x => .opt (CmpF x) .ret
theorem CmpF.ok : FnOK Try.prog 58 CmpF.q :=
  entry_call (ps := [.flt, .flt]) (rs := [TI]) (F := ({ quiet := (ext Xs 78 NanF.q), deep := noDeep } : Fns)) (D := D0) (S := tabS []) (t := CmpF.t) mixed (quiet_ext Xok NanF.ok) (deep_none _) Try.func58 (by kernel_rfl) (sok_fn trivial) (by kernel_rfl) (fun x => by kernel_rfl)
end Go.Proofs.Pen

namespace Go.Proofs.Pen
open Go Go.Proofs
noncomputable def NanI.t (x : Int) : T (Bool) := T.ret (x != x)
noncomputable def NanI.q : List AV → T AV := entry [TI] (outR [.bool]) NanI.t
theorem NanI.ok : FnOK Try.prog 79 NanI.q :=
  entry_in (ps := [TI]) (rs := [.bool]) (F := ({ quiet := Xs, deep := noDeep } : Fns)) (D := D0) (S := tabS []) (t := NanI.t) mixed Xok (deep_none _) Try.func79 (by kernel_rfl) (sok_fn trivial) (by kernel_rfl) (fun x => by kernel_rfl)
end Go.Proofs.Pen

namespace Go.Proofs.Pen
open Go Go.Proofs
noncomputable def CmpI.t (x : Int × Int) : T (Int) := T.ite (x.1 != x.1) (T.ite (x.2 != x.2) (T.ret (0 : Int)) (T.ret (-1 : Int))) (T.ite (x.2 != x.2) (T.ret (1 : Int)) (T.ite (decide (x.1 < x.2)) (T.ret (-1 : Int)) (T.ite (decide (x.1 > x.2)) (T.ret (1 : Int)) (T.ret (0 : Int)))))
noncomputable def CmpI (x : Int × Int) : Option (Int) := (CmpI.t x).run
noncomputable def CmpI.q : List AV → T AV := entry [TI, TI] (outR [TI]) fun x => .opt (CmpI x) .ret
theorem CmpI.ok : FnOK Try.prog 59 CmpI.q :=
  entry_call (ps := [TI, TI]) (rs := [TI]) (F := ({ quiet := (ext Xs 79 NanI.q), deep := noDeep } : Fns)) (D := D0) (S := tabS []) (t := CmpI.t) mixed (quiet_ext Xok NanI.ok) (deep_none _) Try.func59 (by kernel_rfl) (sok_fn trivial) (by kernel_rfl) (fun x => by kernel_rfl)
end Go.Proofs.Pen

namespace Go.Proofs.Pen
open Go Go.Proofs
def cmp_Or.L0 : List (Nat × Lay) := [(2, .val TI), (3, .val TI), (6, .val (.sl TI)), (7, .val TI), (8, .val TI)]
noncomputable def cmp_Or.t0 (x : Int × Int × (List (Int)) × Int × Int × Unit) : T (Ex × Int × Int × (List (Int)) × Int × Int × Unit) := T.ite (decide (x.2.2.2.2.1 < x.2.2.2.1)) (T.opt (lget x.2.2.1 x.2.2.2.2.1) fun y => T.ite (y != x.2.1) (T.ret (Ex.ret, y, x.2.1, x.2.2.1, x.2.2.2.1, x.2.2.2.2.1, ())) (T.ret (Ex.normal, x.1, x.2.1, x.2.2.1, x.2.2.2.1, W (x.2.2.2.2.1 + (1 : Int)), ()))) (T.ret (Ex.exit (0 : Nat), x.1, x.2.1, x.2.2.1, x.2.2.2.1, x.2.2.2.2.1, ()))
noncomputable def cmp_Or.l0 (x : Int × Int × (List (Int)) × Int × Int × Unit) : Option (Ex × Int × Int × (List (Int)) × Int × Int × Unit) := (iterT cmp_Or.t0 rounds x).run
theorem cmp_Or.k0 : bodies 0 (lp Try.f57 []) = [.loop (loopIn 0 (lp Try.f57 []))] ∧ WP Try.prog 0 (.block 0 (.loop (loopIn 0 (lp Try.f57 [])))) (loopS cmp_Or.L0 18 0 [.exit 0, .ret] cmp_Or.l0) :=
  loop_tree (L := cmp_Or.L0) (F := ({ quiet := Xs, deep := noDeep } : Fns)) (D := D0) (tab := []) (t := cmp_Or.t0) mixed Xok (deep_none _) (fun _ => rfl) (by kernel_rfl) (by kernel_rfl) trivial (fun x => by kernel_rfl)
noncomputable def cmp_Or.t (x : (List (Int))) : T (Int) := T.opt (cmp_Or.l0 ((0 : Int), (0 : Int), x, (↑(List.length x) : Int), (0 : Int), ())) fun y => T.ite (exEq y.1 (Ex.exit (0 : Nat))) (T.ret y.2.2.1) (T.ite (exEq y.1 Ex.ret) (T.ret y.2.1) T.fail)
noncomputable def cmp_Or (x : (List (Int))) : Option (Int) := (cmp_Or.t x).run
noncomputable def cmp_Or.q : List AV → T AV := entry [(.sl TI)] (outR [TI]) fun x => .opt (cmp_Or x) .ret
theorem cmp_Or.ok : FnOK Try.prog 57 cmp_Or.q :=
  entry_call (ps := [(.sl TI)]) (rs := [TI]) (F := ({ quiet := Xs, deep := noDeep } : Fns)) (D := D0) (S := tabS [(0, loopS cmp_Or.L0 18 0 [.exit 0, .ret] cmp_Or.l0)]) (t := cmp_Or.t) mixed Xok (deep_none _) Try.func57 (by kernel_rfl) (sok_fn ⟨cmp_Or.k0, trivial⟩) (by kernel_rfl) (fun x => by kernel_rfl)
end Go.Proofs.Pen

namespace Go.Proofs.Pen
open Go Go.Proofs
noncomputable def bvh_builder_median_2.t (x : Int × Int × (((List ((Option Nat × Option Nat × Option Nat) × Option Nat × Option Nat × Option Nat)) × (List (Option Nat × Option Nat × Option Nat)) × Bool × (List (((Option Nat × Option Nat × Option Nat) × Option Nat × Option Nat × Option Nat) × Int × Int × Int × Int)) × List (Int)) × Int)) : T (Int) := T.opt (bvh_builder_median_1 (x.1, x.2.2)) fun y => T.opt (bvh_builder_median_1 x.2) fun y_1 => T.opt (CmpF (y, y_1)) fun y => T.opt (CmpI (x.1, x.2.1)) fun y_2 => T.opt (cmp_Or (List.take (2 : Nat) [y, y_2])) fun y => T.ret y
noncomputable def bvh_builder_median_2 (x : Int × Int × (((List ((Option Nat × Option Nat × Option Nat) × Option Nat × Option Nat × Option Nat)) × (List (Option Nat × Option Nat × Option Nat)) × Bool × (List (((Option Nat × Option Nat × Option Nat) × Option Nat × Option Nat × Option Nat) × Int × Int × Int × Int)) × List (Int)) × Int)) : Option (Int) := (bvh_builder_median_2.t x).run
noncomputable def bvh_builder_median_2.q : List AV → T AV := entry [TI, TI, (.ptr (.clo 54 (.pair (.ptr (.ptr TBld)) (.ptr TI))))] (outR [TI]) fun x => .opt (bvh_builder_median_2 x) .ret
theorem bvh_builder_median_2.ok : FnOK Try.prog 56 bvh_builder_median_2.q :=
  entry_call (ps := [TI, TI, (.ptr (.clo 54 (.pair (.ptr (.ptr TBld)) (.ptr TI))))]) (rs := [TI]) (F := ({ quiet := (ext (ext (ext (ext Xs 58 CmpF.q) 59 CmpI.q) 57 cmp_Or.q) 54 bvh_builder_median_1.q), deep := noDeep } : Fns)) (D := D0) (S := tabS []) (t := bvh_builder_median_2.t) mixed (quiet_ext (quiet_ext (quiet_ext (quiet_ext Xok CmpF.ok) CmpI.ok) cmp_Or.ok) bvh_builder_median_1.ok) (deep_none _) Try.func56 (by kernel_rfl) (sok_fn trivial) (by kernel_rfl) (fun x => by kernel_rfl)
end Go.Proofs.Pen

namespace Go.Proofs.Pen
open Go Go.Proofs
noncomputable def bvh_builder_median.deeps : Deeps := { D := [25, 55], C := [], frz := false, S := fun _ _ => noS }
theorem bvh_builder_median.deepsOk : LoopsOK Try.prog bvh_builder_median.deeps.S := (loops_none _)
noncomputable def bvh_builder_median.tabl : DTab := (tbExt tb 55 (frzD isOslA (sortE Try.prog 56 (.ptr (.clo 54 (.pair (.ptr (.ptr TBld)) (.ptr TI)))) fun x a b => bvh_builder_median_2 (a, b, x))))
theorem bvh_builder_median.tablOk : TBOK Try.prog bvh_builder_median.tabl := (tb_ext tbOk (frzD_ok (sortE_ok (ct := (.ptr (.clo 54 (.pair (.ptr (.ptr TBld)) (.ptr TI))))) (f := fun x a b => bvh_builder_median_2 (a, b, x)) (by kernel_rfl) sorts_fn bvh_builder_median_2.ok (fun x a b n h => by show (T.opt (bvh_builder_median_2 (a, b, x)) fun y => T.ret (AV.it .i64 y)).run = _; rw [tr_opt, h]; rfl))))
noncomputable def bvh_builder_median.t (x : ((List ((Option Nat × Option Nat × Option Nat) × Option Nat × Option Nat × Option Nat)) × (List (Option Nat × Option Nat × Option Nat)) × Bool × (List (((Option Nat × Option Nat × Option Nat) × Option Nat × Option Nat × Option Nat) × Int × Int × Int × Int)) × List (Int)) × (List (Int)) × Int) : T ((List (Int)) × (List (Int))) := T.ite (decide (List.length x.2.1 * (8 : Nat) ≤ most)) (T.opt (sortO (fun a b => bvh_builder_median_2 (a, b, x.1, x.2.2)) (List.take (List.length x.2.1) (intsOf rfl x.2.1))) fun y => T.ite (decide ((0 : Int) ≤ (0 : Int)) && decide ((0 : Int) ≤ W ((↑(List.length x.2.1) : Int).tdiv (2 : Int))) && decide (W ((↑(List.length x.2.1) : Int).tdiv (2 : Int)) ≤ (↑(List.length x.2.1) : Int))) (T.ite (decide ((0 : Int) ≤ W ((↑(List.length x.2.1) : Int).tdiv (2 : Int))) && decide (W ((↑(List.length x.2.1) : Int).tdiv (2 : Int)) ≤ (↑(List.length x.2.1) : Int)) && decide ((↑(List.length x.2.1) : Int) ≤ (↑(List.length x.2.1) : Int))) (T.ret (List.take ((W ((↑(List.length x.2.1) : Int).tdiv (2 : Int))).toNat - Int.toNat (0 : Int)) (List.drop ((0 : Nat) + Int.toNat (0 : Int)) (y ++ List.drop (List.length x.2.1) (intsOf rfl x.2.1))), List.take ((↑(List.length x.2.1) : Int).toNat - (W ((↑(List.length x.2.1) : Int).tdiv (2 : Int))).toNat) (List.drop ((0 : Nat) + (W ((↑(List.length x.2.1) : Int).tdiv (2 : Int))).toNat) (y ++ List.drop (List.length x.2.1) (intsOf rfl x.2.1))))) T.fail) T.fail) T.fail
noncomputable def bvh_builder_median (x : ((List ((Option Nat × Option Nat × Option Nat) × Option Nat × Option Nat × Option Nat)) × (List (Option Nat × Option Nat × Option Nat)) × Bool × (List (((Option Nat × Option Nat × Option Nat) × Option Nat × Option Nat × Option Nat) × Int × Int × Int × Int)) × List (Int)) × (List (Int)) × Int) : Option ((List (Int)) × (List (Int))) := (bvh_builder_median.t x).run
noncomputable def bvh_builder_median.q : List AV → T AV := entry [(.ptr TBld), (.sl TI), TI] (outR [(.sl TI), (.sl TI)]) fun x => .opt (bvh_builder_median x) .ret
theorem bvh_builder_median.ok : FnOK Try.prog 42 bvh_builder_median.q :=
  entry_call (ps := [(.ptr TBld), (.sl TI), TI]) (rs := [(.sl TI), (.sl TI)]) (F := (dpT Try.prog (ext (ext Xs 54 bvh_builder_median_1.q) 56 bvh_builder_median_2.q) bvh_builder_median.deeps bvh_builder_median.tabl 100 8)) (D := (inL bvh_builder_median.deeps.D)) (S := tabS []) (t := bvh_builder_median.t) mixed (dpT_ok mixed (quiet_ext (quiet_ext Xok bvh_builder_median_1.ok) bvh_builder_median_2.ok) bvh_builder_median.deepsOk bvh_builder_median.tablOk 100 8).1 (dpT_ok mixed (quiet_ext (quiet_ext Xok bvh_builder_median_1.ok) bvh_builder_median_2.ok) bvh_builder_median.deepsOk bvh_builder_median.tablOk 100 8).2 Try.func42 (by kernel_rfl) (sok_fn trivial) (by kernel_rfl) (fun x => by kernel_rfl)
theorem bvh_builder_median.okF : FrOK Try.prog 42 bvh_builder_median.q :=
  entry_fresh (ps := [(.ptr TBld), (.sl TI), TI]) (rs := [(.sl TI), (.sl TI)]) (F := (dpT Try.prog (ext (ext Xs 54 bvh_builder_median_1.q) 56 bvh_builder_median_2.q) bvh_builder_median.deeps bvh_builder_median.tabl 100 8)) (D := (inL bvh_builder_median.deeps.D)) (S := tabS []) (t := bvh_builder_median.t) mixed (dpT_ok mixed (quiet_ext (quiet_ext Xok bvh_builder_median_1.ok) bvh_builder_median_2.ok) bvh_builder_median.deepsOk bvh_builder_median.tablOk 100 8).1 (dpT_ok mixed (quiet_ext (quiet_ext Xok bvh_builder_median_1.ok) bvh_builder_median_2.ok) bvh_builder_median.deepsOk bvh_builder_median.tablOk 100 8).2 Try.func42 (by kernel_rfl) (sok_fn trivial) (by kernel_rfl) (fun x => by kernel_rfl) entry_run
end Go.Proofs.Pen

namespace Go.Proofs.Pen
open Go Go.Proofs
noncomputable def bvh_builder_cheapest.deeps : Deeps := { D := [42, 25, 55], C := [], frz := false, S := fun _ _ => noS }
theorem bvh_builder_cheapest.deepsOk : LoopsOK Try.prog bvh_builder_cheapest.deeps.S := (loops_none _)
noncomputable def bvh_builder_cheapest.tabl : DTab := (tbExt tb 55 (frzD isOslA (sortE Try.prog 56 (.ptr (.clo 54 (.pair (.ptr (.ptr TBld)) (.ptr TI)))) fun x a b => bvh_builder_median_2 (a, b, x))))
theorem bvh_builder_cheapest.tablOk : TBOK Try.prog bvh_builder_cheapest.tabl := (tb_ext tbOk (frzD_ok (sortE_ok (ct := (.ptr (.clo 54 (.pair (.ptr (.ptr TBld)) (.ptr TI))))) (f := fun x a b => bvh_builder_median_2 (a, b, x)) (by kernel_rfl) sorts_fn bvh_builder_median_2.ok (fun x a b n h => by show (T.opt (bvh_builder_median_2 (a, b, x)) fun y => T.ret (AV.it .i64 y)).run = _; rw [tr_opt, h]; rfl))))
def bvh_builder_cheapest.L2 : List (Nat × Lay) := [(0, .val (.ptr TBld)), (1, .val (.sl TI)), (2, .val TI), (7, .box TBox), (10, .obx [.own TI, .own TI]), (11, .val .flt), (12, .val TI), (13, .obx [.own TI, .own TI]), (32, .val (.sl TI)), (33, .val TI), (34, .val TI)]
noncomputable def bvh_builder_cheapest.t2 (x : ((List ((Option Nat × Option Nat × Option Nat) × Option Nat × Option Nat × Option Nat)) × (List (Option Nat × Option Nat × Option Nat)) × Bool × (List (((Option Nat × Option Nat × Option Nat) × Option Nat × Option Nat × Option Nat) × Int × Int × Int × Int)) × List (Int)) × (List (Int)) × Int × ((Option Nat × Option Nat × Option Nat) × Option Nat × Option Nat × Option Nat) × (List Int × List Int × Unit) × (Option Nat) × Int × (List Int × List Int × Unit) × (List (Int)) × Int × Int × Unit) : T (Ex × ((List ((Option Nat × Option Nat × Option Nat) × Option Nat × Option Nat × Option Nat)) × (List (Option Nat × Option Nat × Option Nat)) × Bool × (List (((Option Nat × Option Nat × Option Nat) × Option Nat × Option Nat × Option Nat) × Int × Int × Int × Int)) × List (Int)) × (List (Int)) × Int × ((Option Nat × Option Nat × Option Nat) × Option Nat × Option Nat × Option Nat) × (List Int × List Int × Unit) × (Option Nat) × Int × (List Int × List Int × Unit) × (List (Int)) × Int × Int × Unit) := T.ite (decide (x.2.2.2.2.2.2.2.2.2.2.1 < x.2.2.2.2.2.2.2.2.2.1)) (T.opt (lget x.2.2.2.2.2.2.2.2.1 x.2.2.2.2.2.2.2.2.2.2.1) fun y => T.opt (bvh_builder_bin (x.1, y, x.2.2.1, x.2.2.2.1)) fun y_1 => T.ite (decide (y_1 ≥ x.2.2.2.2.2.2.1)) (T.ite ((1 : Int) == (↑(0 : Nat) : Int)) (T.ite (decide ((x.2.2.2.2.2.2.2.1.1.length + (1 : Nat)) * nat_lit 8 ≤ most)) (T.ite ((1 : Int) == (↑(0 : Nat) : Int)) (T.ret (Ex.normal, x.1, x.2.1, x.2.2.1, x.2.2.2.1, (List.take x.2.2.2.2.1.1.length x.2.2.2.2.1.1, List.take x.2.2.2.2.1.2.1.length x.2.2.2.2.1.2.1, ()), x.2.2.2.2.2.1, x.2.2.2.2.2.2.1, (List.take (x.2.2.2.2.2.2.2.1.1.length + (1 : Nat)) (List.take x.2.2.2.2.2.2.2.1.1.length x.2.2.2.2.2.2.2.1.1 ++ [y]), List.take x.2.2.2.2.2.2.2.1.2.1.length x.2.2.2.2.2.2.2.1.2.1, ()), x.2.2.2.2.2.2.2.2.1, x.2.2.2.2.2.2.2.2.2.1, W (x.2.2.2.2.2.2.2.2.2.2.1 + (1 : Int)), ())) (T.ite ((1 : Int) == (↑((0 : Nat) + (1 : Nat)) : Int)) T.fail T.fail)) T.fail) (T.ite ((1 : Int) == (↑((0 : Nat) + (1 : Nat)) : Int)) (T.ite (decide ((x.2.2.2.2.2.2.2.1.2.1.length + (1 : Nat)) * nat_lit 8 ≤ most)) (T.ite ((1 : Int) == (↑(0 : Nat) : Int)) T.fail (T.ite ((1 : Int) == (↑((0 : Nat) + (1 : Nat)) : Int)) (T.ret (Ex.normal, x.1, x.2.1, x.2.2.1, x.2.2.2.1, (List.take x.2.2.2.2.1.1.length x.2.2.2.2.1.1, List.take x.2.2.2.2.1.2.1.length x.2.2.2.2.1.2.1, ()), x.2.2.2.2.2.1, x.2.2.2.2.2.2.1, (List.take x.2.2.2.2.2.2.2.1.1.length x.2.2.2.2.2.2.2.1.1, List.take (x.2.2.2.2.2.2.2.1.2.1.length + (1 : Nat)) (List.take x.2.2.2.2.2.2.2.1.2.1.length x.2.2.2.2.2.2.2.1.2.1 ++ [y]), ()), x.2.2.2.2.2.2.2.2.1, x.2.2.2.2.2.2.2.2.2.1, W (x.2.2.2.2.2.2.2.2.2.2.1 + (1 : Int)), ())) T.fail)) T.fail) T.fail)) (T.ite ((0 : Int) == (↑(0 : Nat) : Int)) (T.ite (decide ((x.2.2.2.2.2.2.2.1.1.length + (1 : Nat)) * nat_lit 8 ≤ most)) (T.ite ((0 : Int) == (↑(0 : Nat) : Int)) (T.ret (Ex.normal, x.1, x.2.1, x.2.2.1, x.2.2.2.1, (List.take x.2.2.2.2.1.1.length x.2.2.2.2.1.1, List.take x.2.2.2.2.1.2.1.length x.2.2.2.2.1.2.1, ()), x.2.2.2.2.2.1, x.2.2.2.2.2.2.1, (List.take (x.2.2.2.2.2.2.2.1.1.length + (1 : Nat)) (List.take x.2.2.2.2.2.2.2.1.1.length x.2.2.2.2.2.2.2.1.1 ++ [y]), List.take x.2.2.2.2.2.2.2.1.2.1.length x.2.2.2.2.2.2.2.1.2.1, ()), x.2.2.2.2.2.2.2.2.1, x.2.2.2.2.2.2.2.2.2.1, W (x.2.2.2.2.2.2.2.2.2.2.1 + (1 : Int)), ())) (T.ite ((0 : Int) == (↑((0 : Nat) + (1 : Nat)) : Int)) T.fail T.fail)) T.fail) (T.ite ((0 : Int) == (↑((0 : Nat) + (1 : Nat)) : Int)) (T.ite (decide ((x.2.2.2.2.2.2.2.1.2.1.length + (1 : Nat)) * nat_lit 8 ≤ most)) (T.ite ((0 : Int) == (↑(0 : Nat) : Int)) T.fail (T.ite ((0 : Int) == (↑((0 : Nat) + (1 : Nat)) : Int)) (T.ret (Ex.normal, x.1, x.2.1, x.2.2.1, x.2.2.2.1, (List.take x.2.2.2.2.1.1.length x.2.2.2.2.1.1, List.take x.2.2.2.2.1.2.1.length x.2.2.2.2.1.2.1, ()), x.2.2.2.2.2.1, x.2.2.2.2.2.2.1, (List.take x.2.2.2.2.2.2.2.1.1.length x.2.2.2.2.2.2.2.1.1, List.take (x.2.2.2.2.2.2.2.1.2.1.length + (1 : Nat)) (List.take x.2.2.2.2.2.2.2.1.2.1.length x.2.2.2.2.2.2.2.1.2.1 ++ [y]), ()), x.2.2.2.2.2.2.2.2.1, x.2.2.2.2.2.2.2.2.2.1, W (x.2.2.2.2.2.2.2.2.2.2.1 + (1 : Int)), ())) T.fail)) T.fail) T.fail))) (T.ret (Ex.exit (2 : Nat), x.1, x.2.1, x.2.2.1, x.2.2.2.1, (List.take x.2.2.2.2.1.1.length x.2.2.2.2.1.1, List.take x.2.2.2.2.1.2.1.length x.2.2.2.2.1.2.1, ()), x.2.2.2.2.2.1, x.2.2.2.2.2.2.1, (List.take x.2.2.2.2.2.2.2.1.1.length x.2.2.2.2.2.2.2.1.1, List.take x.2.2.2.2.2.2.2.1.2.1.length x.2.2.2.2.2.2.2.1.2.1, ()), x.2.2.2.2.2.2.2.2.1, x.2.2.2.2.2.2.2.2.2.1, x.2.2.2.2.2.2.2.2.2.2.1, ()))
noncomputable def bvh_builder_cheapest.l2 (x : ((List ((Option Nat × Option Nat × Option Nat) × Option Nat × Option Nat × Option Nat)) × (List (Option Nat × Option Nat × Option Nat)) × Bool × (List (((Option Nat × Option Nat × Option Nat) × Option Nat × Option Nat × Option Nat) × Int × Int × Int × Int)) × List (Int)) × (List (Int)) × Int × ((Option Nat × Option Nat × Option Nat) × Option Nat × Option Nat × Option Nat) × (List Int × List Int × Unit) × (Option Nat) × Int × (List Int × List Int × Unit) × (List (Int)) × Int × Int × Unit) : Option (Ex × ((List ((Option Nat × Option Nat × Option Nat) × Option Nat × Option Nat × Option Nat)) × (List (Option Nat × Option Nat × Option Nat)) × Bool × (List (((Option Nat × Option Nat × Option Nat) × Option Nat × Option Nat × Option Nat) × Int × Int × Int × Int)) × List (Int)) × (List (Int)) × Int × ((Option Nat × Option Nat × Option Nat) × Option Nat × Option Nat × Option Nat) × (List Int × List Int × Unit) × (Option Nat) × Int × (List Int × List Int × Unit) × (List (Int)) × Int × Int × Unit) := (iterT bvh_builder_cheapest.t2 rounds x).run
theorem bvh_builder_cheapest.k2 : bodies 2 (lp Try.f41 [0]) = [.loop (loopIn 2 (lp Try.f41 [0]))] ∧ WP Try.prog 0 (.block 2 (.loop (loopIn 2 (lp Try.f41 [0])))) (loopS bvh_builder_cheapest.L2 95 2 [.exit 2] bvh_builder_cheapest.l2) :=
  loop_tree (L := bvh_builder_cheapest.L2) (F := (dpT Try.prog (ext (ext (ext (ext (ext (ext (ext Xs 32 vec_Part.q) 52 bvh_builder_bin.q) 53 bvh_builder_cost.q) 42 bvh_builder_median.q) 56 bvh_builder_median_2.q) 54 bvh_builder_median_1.q) 75 vec_Sub_1.q) bvh_builder_cheapest.deeps bvh_builder_cheapest.tabl 100 8)) (D := (inL bvh_builder_cheapest.deeps.D)) (tab := []) (t := bvh_builder_cheapest.t2) mixed (dpT_ok mixed (quiet_ext (quiet_ext (quiet_ext (quiet_ext (quiet_ext (quiet_ext (quiet_ext Xok vec_Part.ok) bvh_builder_bin.ok) bvh_builder_cost.ok) bvh_builder_median.ok) bvh_builder_median_2.ok) bvh_builder_median_1.ok) vec_Sub_1.ok) bvh_builder_cheapest.deepsOk bvh_builder_cheapest.tablOk 100 8).1 (dpT_ok mixed (quiet_ext (quiet_ext (quiet_ext (quiet_ext (quiet_ext (quiet_ext (quiet_ext Xok vec_Part.ok) bvh_builder_bin.ok) bvh_builder_cost.ok) bvh_builder_median.ok) bvh_builder_median_2.ok) bvh_builder_median_1.ok) vec_Sub_1.ok) bvh_builder_cheapest.deepsOk bvh_builder_cheapest.tablOk 100 8).2 (fun _ => rfl) (by kernel_rfl) (by kernel_rfl) trivial (fun x => by kernel_rfl)
def bvh_builder_cheapest.L0 : List (Nat × Lay) := [(0, .val (.ptr TBld)), (1, .val (.sl TI)), (2, .val TI), (7, .box TBox), (10, .obx [.own TI, .own TI]), (11, .val .flt), (12, .val TI)]
noncomputable def bvh_builder_cheapest.t0 (x : ((List ((Option Nat × Option Nat × Option Nat) × Option Nat × Option Nat × Option Nat)) × (List (Option Nat × Option Nat × Option Nat)) × Bool × (List (((Option Nat × Option Nat × Option Nat) × Option Nat × Option Nat × Option Nat) × Int × Int × Int × Int)) × List (Int)) × (List (Int)) × Int × ((Option Nat × Option Nat × Option Nat) × Option Nat × Option Nat × Option Nat) × (List Int × List Int × Unit) × (Option Nat) × Int × Unit) : T (Ex × ((List ((Option Nat × Option Nat × Option Nat) × Option Nat × Option Nat × Option Nat)) × (List (Option Nat × Option Nat × Option Nat)) × Bool × (List (((Option Nat × Option Nat × Option Nat) × Option Nat × Option Nat × Option Nat) × Int × Int × Int × Int)) × List (Int)) × (List (Int)) × Int × ((Option Nat × Option Nat × Option Nat) × Option Nat × Option Nat × Option Nat) × (List Int × List Int × Unit) × (Option Nat) × Int × Unit) := T.ite (decide (x.2.2.2.2.2.2.1 < (8 : Int))) (T.opt (vec_Part (x.2.2.2.1.2, x.2.2.1)) fun y => T.opt (vec_Part (x.2.2.2.1.1, x.2.2.1)) fun y_1 => T.ite (!ford y y_1 == some Ordering.gt) (T.ret (Ex.exit (0 : Nat), x.1, x.2.1, x.2.2.1, x.2.2.2.1, (List.take x.2.2.2.2.1.1.length x.2.2.2.2.1.1, List.take x.2.2.2.2.1.2.1.length x.2.2.2.2.1.2.1, ()), x.2.2.2.2.2.1, x.2.2.2.2.2.2.1, ())) (T.opt (bvh_builder_cheapest.l2 (x.1, x.2.1, x.2.2.1, x.2.2.2.1, (List.take x.2.2.2.2.1.1.length x.2.2.2.2.1.1, List.take x.2.2.2.2.1.2.1.length x.2.2.2.2.1.2.1, ()), x.2.2.2.2.2.1, x.2.2.2.2.2.2.1, ([], [], ()), x.2.1, (↑(List.length x.2.1) : Int), (0 : Int), ())) fun y => T.ite (exEq y.1 (Ex.exit (2 : Nat))) (T.ite ((↑y.2.2.2.2.2.2.2.2.1.1.length : Int) == (0 : Int)) (T.ret (Ex.normal, y.2.1, y.2.2.1, y.2.2.2.1, y.2.2.2.2.1, (List.take y.2.2.2.2.2.1.1.length y.2.2.2.2.2.1.1, List.take y.2.2.2.2.2.1.2.1.length y.2.2.2.2.2.1.2.1, ()), y.2.2.2.2.2.2.1, W (y.2.2.2.2.2.2.2.1 + (1 : Int)), ())) (T.ite ((↑y.2.2.2.2.2.2.2.2.1.2.1.length : Int) == (0 : Int)) (T.ret (Ex.normal, y.2.1, y.2.2.1, y.2.2.2.1, y.2.2.2.2.1, (List.take y.2.2.2.2.2.1.1.length y.2.2.2.2.2.1.1, List.take y.2.2.2.2.2.1.2.1.length y.2.2.2.2.2.1.2.1, ()), y.2.2.2.2.2.2.1, W (y.2.2.2.2.2.2.2.1 + (1 : Int)), ())) (T.opt (bvh_builder_cost (y.2.1, List.take y.2.2.2.2.2.2.2.2.1.1.length y.2.2.2.2.2.2.2.2.1.1, List.take y.2.2.2.2.2.2.2.2.1.2.1.length y.2.2.2.2.2.2.2.2.1.2.1)) fun y_2 => T.ite ((↑y.2.2.2.2.2.1.1.length : Int) == (0 : Int) || ford y_2 y.2.2.2.2.2.2.1 == some Ordering.lt) (T.ret (Ex.normal, y.2.1, y.2.2.1, y.2.2.2.1, y.2.2.2.2.1, (List.take y.2.2.2.2.2.2.2.2.1.1.length y.2.2.2.2.2.2.2.2.1.1, List.take y.2.2.2.2.2.2.2.2.1.2.1.length y.2.2.2.2.2.2.2.2.1.2.1, ()), y_2, W (y.2.2.2.2.2.2.2.1 + (1 : Int)), ())) (T.ret (Ex.normal, y.2.1, y.2.2.1, y.2.2.2.1, y.2.2.2.2.1, (List.take y.2.2.2.2.2.1.1.length y.2.2.2.2.2.1.1, List.take y.2.2.2.2.2.1.2.1.length y.2.2.2.2.2.1.2.1, ()), y.2.2.2.2.2.2.1, W (y.2.2.2.2.2.2.2.1 + (1 : Int)), ()))))) T.fail)) (T.ret (Ex.exit (0 : Nat), x.1, x.2.1, x.2.2.1, x.2.2.2.1, (List.take x.2.2.2.2.1.1.length x.2.2.2.2.1.1, List.take x.2.2.2.2.1.2.1.length x.2.2.2.2.1.2.1, ()), x.2.2.2.2.2.1, x.2.2.2.2.2.2.1, ()))
noncomputable def bvh_builder_cheapest.l0 (x : ((List ((Option Nat × Option Nat × Option Nat) × Option Nat × Option Nat × Option Nat)) × (List (Option Nat × Option Nat × Option Nat)) × Bool × (List (((Option Nat × Option Nat × Option Nat) × Option Nat × Option Nat × Option Nat) × Int × Int × Int × Int)) × List (Int)) × (List (Int)) × Int × ((Option Nat × Option Nat × Option Nat) × Option Nat × Option Nat × Option Nat) × (List Int × List Int × Unit) × (Option Nat) × Int × Unit) : Option (Ex × ((List ((Option Nat × Option Nat × Option Nat) × Option Nat × Option Nat × Option Nat)) × (List (Option Nat × Option Nat × Option Nat)) × Bool × (List (((Option Nat × Option Nat × Option Nat) × Option Nat × Option Nat × Option Nat) × Int × Int × Int × Int)) × List (Int)) × (List (Int)) × Int × ((Option Nat × Option Nat × Option Nat) × Option Nat × Option Nat × Option Nat) × (List Int × List Int × Unit) × (Option Nat) × Int × Unit) := (iterT bvh_builder_cheapest.t0 rounds x).run
theorem bvh_builder_cheapest.k0 : bodies 0 (lp Try.f41 []) = [.loop (loopIn 0 (lp Try.f41 []))] ∧ WP Try.prog 0 (.block 0 (.loop (loopIn 0 (lp Try.f41 [])))) (loopS bvh_builder_cheapest.L0 95 0 [.exit 0] bvh_builder_cheapest.l0) :=
  loop_tree (L := bvh_builder_cheapest.L0) (F := (dpT Try.prog (ext (ext (ext (ext (ext (ext (ext Xs 32 vec_Part.q) 52 bvh_builder_bin.q) 53 bvh_builder_cost.q) 42 bvh_builder_median.q) 56 bvh_builder_median_2.q) 54 bvh_builder_median_1.q) 75 vec_Sub_1.q) bvh_builder_cheapest.deeps bvh_builder_cheapest.tabl 100 8)) (D := (inL bvh_builder_cheapest.deeps.D)) (tab := [(2, loopS bvh_builder_cheapest.L2 95 2 [.exit 2] bvh_builder_cheapest.l2)]) (t := bvh_builder_cheapest.t0) mixed (dpT_ok mixed (quiet_ext (quiet_ext (quiet_ext (quiet_ext (quiet_ext (quiet_ext (quiet_ext Xok vec_Part.ok) bvh_builder_bin.ok) bvh_builder_cost.ok) bvh_builder_median.ok) bvh_builder_median_2.ok) bvh_builder_median_1.ok) vec_Sub_1.ok) bvh_builder_cheapest.deepsOk bvh_builder_cheapest.tablOk 100 8).1 (dpT_ok mixed (quiet_ext (quiet_ext (quiet_ext (quiet_ext (quiet_ext (quiet_ext (quiet_ext Xok vec_Part.ok) bvh_builder_bin.ok) bvh_builder_cost.ok) bvh_builder_median.ok) bvh_builder_median_2.ok) bvh_builder_median_1.ok) vec_Sub_1.ok) bvh_builder_cheapest.deepsOk bvh_builder_cheapest.tablOk 100 8).2 (fun _ => rfl) (by kernel_rfl) (by kernel_rfl) ⟨bvh_builder_cheapest.k2, trivial⟩ (fun x => by kernel_rfl)
noncomputable def bvh_builder_cheapest.t (x : ((List ((Option Nat × Option Nat × Option Nat) × Option Nat × Option Nat × Option Nat)) × (List (Option Nat × Option Nat × Option Nat)) × Bool × (List (((Option Nat × Option Nat × Option Nat) × Option Nat × Option Nat × Option Nat) × Int × Int × Int × Int)) × List (Int)) × (List (Int)) × Int × ((Option Nat × Option Nat × Option Nat) × Option Nat × Option Nat × Option Nat)) : T ((List (Int)) × (List (Int))) := T.opt (bvh_builder_cheapest.l0 (x.1, x.2.1, x.2.2.1, x.2.2.2, ([], [], ()), some (0 : Nat), (1 : Int), ())) fun y => T.ite (exEq y.1 (Ex.exit (0 : Nat))) (T.ite ((↑y.2.2.2.2.2.1.1.length : Int) == (0 : Int)) (T.ite (decide (List.length y.2.2.1 * (8 : Nat) ≤ most)) (T.opt (sortO (fun a b => bvh_builder_median_2 (a, b, y.2.1, y.2.2.2.1)) (List.take (List.length y.2.2.1) (intsOf rfl y.2.2.1))) fun y_1 => T.ite (decide ((0 : Int) ≤ (0 : Int)) && decide ((0 : Int) ≤ W ((↑(List.length y.2.2.1) : Int).tdiv (2 : Int))) && decide (W ((↑(List.length y.2.2.1) : Int).tdiv (2 : Int)) ≤ (↑(List.length y.2.2.1) : Int))) (T.ite (decide ((0 : Int) ≤ W ((↑(List.length y.2.2.1) : Int).tdiv (2 : Int))) && decide (W ((↑(List.length y.2.2.1) : Int).tdiv (2 : Int)) ≤ (↑(List.length y.2.2.1) : Int)) && decide ((↑(List.length y.2.2.1) : Int) ≤ (↑(List.length y.2.2.1) : Int))) (T.ret (List.take ((W ((↑(List.length y.2.2.1) : Int).tdiv (2 : Int))).toNat - Int.toNat (0 : Int)) (List.drop ((0 : Nat) + Int.toNat (0 : Int)) (y_1 ++ List.drop (List.length y.2.2.1) (intsOf rfl y.2.2.1))), List.take ((↑(List.length y.2.2.1) : Int).toNat - (W ((↑(List.length y.2.2.1) : Int).tdiv (2 : Int))).toNat) (List.drop ((0 : Nat) + (W ((↑(List.length y.2.2.1) : Int).tdiv (2 : Int))).toNat) (y_1 ++ List.drop (List.length y.2.2.1) (intsOf rfl y.2.2.1))))) T.fail) T.fail) T.fail) (T.ret (List.take y.2.2.2.2.2.1.1.length y.2.2.2.2.2.1.1, List.take y.2.2.2.2.2.1.2.1.length y.2.2.2.2.2.1.2.1))) T.fail
noncomputable def bvh_builder_cheapest (x : ((List ((Option Nat × Option Nat × Option Nat) × Option Nat × Option Nat × Option Nat)) × (List (Option Nat × Option Nat × Option Nat)) × Bool × (List (((Option Nat × Option Nat × Option Nat) × Option Nat × Option Nat × Option Nat) × Int × Int × Int × Int)) × List (Int)) × (List (Int)) × Int × ((Option Nat × Option Nat × Option Nat) × Option Nat × Option Nat × Option Nat)) : Option ((List (Int)) × (List (Int))) := (bvh_builder_cheapest.t x).run
noncomputable def bvh_builder_cheapest.q : List AV → T AV := entry [(.ptr TBld), (.sl TI), TI, TBox] (outR [(.sl TI), (.sl TI)]) fun x => .opt (bvh_builder_cheapest x) .ret
theorem bvh_builder_cheapest.okF : FrOK Try.prog 41 bvh_builder_cheapest.q :=
  entry_fresh (ps := [(.ptr TBld), (.sl TI), TI, TBox]) (rs := [(.sl TI), (.sl TI)]) (F := (dpT Try.prog (ext (ext (ext (ext (ext (ext (ext Xs 32 vec_Part.q) 52 bvh_builder_bin.q) 53 bvh_builder_cost.q) 42 bvh_builder_median.q) 56 bvh_builder_median_2.q) 54 bvh_builder_median_1.q) 75 vec_Sub_1.q) bvh_builder_cheapest.deeps bvh_builder_cheapest.tabl 100 8)) (D := (inL bvh_builder_cheapest.deeps.D)) (S := tabS [(0, loopS bvh_builder_cheapest.L0 95 0 [.exit 0] bvh_builder_cheapest.l0)]) (t := bvh_builder_cheapest.t) mixed (dpT_ok mixed (quiet_ext (quiet_ext (quiet_ext (quiet_ext (quiet_ext (quiet_ext (quiet_ext Xok vec_Part.ok) bvh_builder_bin.ok) bvh_builder_cost.ok) bvh_builder_median.ok) bvh_builder_median_2.ok) bvh_builder_median_1.ok) vec_Sub_1.ok) bvh_builder_cheapest.deepsOk bvh_builder_cheapest.tablOk 100 8).1 (dpT_ok mixed (quiet_ext (quiet_ext (quiet_ext (quiet_ext (quiet_ext (quiet_ext (quiet_ext Xok vec_Part.ok) bvh_builder_bin.ok) bvh_builder_cost.ok) bvh_builder_median.ok) bvh_builder_median_2.ok) bvh_builder_median_1.ok) vec_Sub_1.ok) bvh_builder_cheapest.deepsOk bvh_builder_cheapest.tablOk 100 8).2 Try.func41 (by kernel_rfl) (sok_fn ⟨bvh_builder_cheapest.k0, trivial⟩) (by kernel_rfl) (fun x => by kernel_rfl) entry_run
end Go.Proofs.Pen

namespace Go.Proofs.Pen
open Go Go.Proofs
def bvh_build.L : List (Nat × Lay) := [(9000, .oblk 0 [.own TBox, .own TV, .dat .bool, .pt 1]), (9001, .oblk 1 [.own TNode, .own TI]), (0, .rf 0 0), (1, .val (.sl TI))]
def bvh_build.L2 : List (Nat × Lay) := [(9000, .oblk 0 [.own TBox, .own TV, .dat .bool, .pt 1]), (9001, .oblk 1 [.own TNode, .own TI])]
def bvh_build.ids (args : List AV) (own : List Blk) : Option (List Nat) := match args with
  | [.ref ib 0, _] => match rowAt own ib with
    | .cells [_, _, _, .ref it 0] => some [ib, it]
    | _ => none
  | _ => none
abbrev bvh_build.Fun := ((List ((Option Nat × Option Nat × Option Nat) × Option Nat × Option Nat × Option Nat) × List (Option Nat × Option Nat × Option Nat) × Bool × Unit) × (List (((Option Nat × Option Nat × Option Nat) × Option Nat × Option Nat × Option Nat) × Int × Int × Int × Int) × List Int × Unit) × (List (Int)) × Unit) → Option (Int × ((List ((Option Nat × Option Nat × Option Nat) × Option Nat × Option Nat × Option Nat) × List (Option Nat × Option Nat × Option Nat) × Bool × Unit) × (List (((Option Nat × Option Nat × Option Nat) × Option Nat × Option Nat × Option Nat) × Int × Int × Int × Int) × List Int × Unit) × Unit))
noncomputable def bvh_build.ent (h : bvh_build.Fun) : List AV → List Blk → T (AV × List Blk) := frzD isRefA (layD 2 bvh_build.L bvh_build.L2 [TI] bvh_build.ids h)
noncomputable def bvh_build.tab (h : bvh_build.Fun) : DTab := tbExt (tbExt (tbExt (tbExt tb 41 (freshD bvh_builder_cheapest.q)) 42 (freshD bvh_builder_median.q)) 38 (frzD isOslA sortI)) 24 (bvh_build.ent h)
noncomputable def bvh_build.fns (h : bvh_build.Fun) : Fns := { quiet := (ext (ext (ext Xs 37 bvh_builder_around.q) 39 bvh_builder_middles.q) 40 box_Longest.q), deep := tabD (bvh_build.tab h) noDeep }
def bvh_build.isD (g : Nat) : Bool := inL [41, 42, 25, 38, 24] g
noncomputable def bvh_build.t (h : bvh_build.Fun) (x : (List ((Option Nat × Option Nat × Option Nat) × Option Nat × Option Nat × Option Nat) × List (Option Nat × Option Nat × Option Nat) × Bool × Unit) × (List (((Option Nat × Option Nat × Option Nat) × Option Nat × Option Nat × Option Nat) × Int × Int × Int × Int) × List Int × Unit) × (List (Int)) × Unit) : T (Int × (List ((Option Nat × Option Nat × Option Nat) × Option Nat × Option Nat × Option Nat) × List (Option Nat × Option Nat × Option Nat) × Bool × Unit) × (List (((Option Nat × Option Nat × Option Nat) × Option Nat × Option Nat × Option Nat) × Int × Int × Int × Int) × List Int × Unit) × Unit) := T.opt (bvh_builder_around ((List.take x.1.1.length x.1.1, List.take x.1.2.1.length x.1.2.1, x.1.2.2.1, List.take x.2.1.1.length x.2.1.1, List.take x.2.1.2.1.length x.2.1.2.1), x.2.2.1)) fun y => T.ite (decide ((x.2.1.1.length + (1 : Nat)) * nat_lit 80 ≤ most)) (T.ite (decide ((↑(List.length x.2.2.1) : Int) ≤ (4 : Int))) (T.ite (decide (List.length x.2.2.1 * (8 : Nat) ≤ most)) (T.ite (decide (List.length x.2.2.1 ≤ (1000000 : Nat))) (T.ite (decide ((x.2.1.2.1.length + (List.take (List.length x.2.2.1) (insS (fun a b => decide (a < b)) (List.take (List.length x.2.2.1) (intsOf rfl x.2.2.1)) ++ List.drop (List.length x.2.2.1) (intsOf rfl x.2.2.1))).length) * nat_lit 8 ≤ most)) (T.ite (decide ((0 : Int) ≤ (↑x.2.1.1.length : Int)) && decide ((↑x.2.1.1.length : Int) < (↑(x.2.1.1.length + (1 : Nat)) : Int))) (T.opt (List.take x.2.1.1.length x.2.1.1 ++ [(y, (0 : Int), (0 : Int), (0 : Int), (0 : Int))])[(0 : Nat) + (↑x.2.1.1.length : Int).toNat]? fun y_1 => T.ret ((↑x.2.1.1.length : Int), (List.take x.1.1.length x.1.1, List.take x.1.2.1.length x.1.2.1, x.1.2.2.1, ()), (List.take (x.2.1.1.length + (1 : Nat)) ((List.take x.2.1.1.length x.2.1.1 ++ [(y, (0 : Int), (0 : Int), (0 : Int), (0 : Int))]).set ((0 : Nat) + (↑x.2.1.1.length : Int).toNat) (y, (0 : Int), (0 : Int), (↑x.2.1.2.1.length : Int), (↑(x.2.1.2.1.length + (List.take (List.length x.2.2.1) (insS (fun a b => decide (a < b)) (List.take (List.length x.2.2.1) (intsOf rfl x.2.2.1)) ++ List.drop (List.length x.2.2.1) (intsOf rfl x.2.2.1))).length) : Int))), List.take (x.2.1.2.1.length + (List.take (List.length x.2.2.1) (insS (fun a b => decide (a < b)) (List.take (List.length x.2.2.1) (intsOf rfl x.2.2.1)) ++ List.drop (List.length x.2.2.1) (intsOf rfl x.2.2.1))).length) (List.take x.2.1.2.1.length x.2.1.2.1 ++ List.take (List.length x.2.2.1) (insS (fun a b => decide (a < b)) (List.take (List.length x.2.2.1) (intsOf rfl x.2.2.1)) ++ List.drop (List.length x.2.2.1) (intsOf rfl x.2.2.1))), ()), ())) T.fail) T.fail) T.fail) T.fail) (T.opt (bvh_builder_middles ((List.take x.1.1.length x.1.1, List.take x.1.2.1.length x.1.2.1, x.1.2.2.1, List.take (x.2.1.1.length + (1 : Nat)) (List.take x.2.1.1.length x.2.1.1 ++ [(y, (0 : Int), (0 : Int), (0 : Int), (0 : Int))]), List.take x.2.1.2.1.length x.2.1.2.1), x.2.2.1)) fun y_1 => T.opt (box_Longest y_1) fun y_2 => T.ite x.1.2.2.1 (T.opt (bvh_builder_cheapest ((List.take x.1.1.length x.1.1, List.take x.1.2.1.length x.1.2.1, x.1.2.2.1, List.take (x.2.1.1.length + (1 : Nat)) (List.take x.2.1.1.length x.2.1.1 ++ [(y, (0 : Int), (0 : Int), (0 : Int), (0 : Int))]), List.take x.2.1.2.1.length x.2.1.2.1), x.2.2.1, y_2, y_1)) fun y_3 => T.opt (h ((List.take x.1.1.length x.1.1, List.take x.1.2.1.length x.1.2.1, x.1.2.2.1, ()), (List.take (x.2.1.1.length + (1 : Nat)) (List.take x.2.1.1.length x.2.1.1 ++ [(y, (0 : Int), (0 : Int), (0 : Int), (0 : Int))]), List.take x.2.1.2.1.length x.2.1.2.1, ()), y_3.fst, ())) fun y_4 => T.opt (h ((List.take y_4.snd.fst.fst.length y_4.snd.fst.fst, List.take y_4.snd.fst.snd.fst.length y_4.snd.fst.snd.fst, y_4.snd.fst.snd.snd.fst, ()), (List.take y_4.snd.snd.fst.fst.length y_4.snd.snd.fst.fst, List.take y_4.snd.snd.fst.snd.fst.length y_4.snd.snd.fst.snd.fst, ()), y_3.snd, ())) fun y_5 => T.ite (decide ((0 : Int) ≤ (↑x.2.1.1.length : Int)) && decide ((↑x.2.1.1.length : Int) < (↑y_5.snd.snd.fst.fst.length : Int))) (T.opt y_5.snd.snd.fst.fst[(0 : Nat) + (↑x.2.1.1.length : Int).toNat]? fun y_6 => T.ret ((↑x.2.1.1.length : Int), (List.take y_5.snd.fst.fst.length y_5.snd.fst.fst, List.take y_5.snd.fst.snd.fst.length y_5.snd.fst.snd.fst, y_5.snd.fst.snd.snd.fst, ()), (List.take y_5.snd.snd.fst.fst.length (y_5.snd.snd.fst.fst.set ((0 : Nat) + (↑x.2.1.1.length : Int).toNat) (y, y_4.fst, y_5.fst, (0 : Int), (0 : Int))), List.take y_5.snd.snd.fst.snd.fst.length y_5.snd.snd.fst.snd.fst, ()), ())) T.fail) (T.opt (bvh_builder_median ((List.take x.1.1.length x.1.1, List.take x.1.2.1.length x.1.2.1, x.1.2.2.1, List.take (x.2.1.1.length + (1 : Nat)) (List.take x.2.1.1.length x.2.1.1 ++ [(y, (0 : Int), (0 : Int), (0 : Int), (0 : Int))]), List.take x.2.1.2.1.length x.2.1.2.1), x.2.2.1, y_2)) fun y_3 => T.opt (h ((List.take x.1.1.length x.1.1, List.take x.1.2.1.length x.1.2.1, x.1.2.2.1, ()), (List.take (x.2.1.1.length + (1 : Nat)) (List.take x.2.1.1.length x.2.1.1 ++ [(y, (0 : Int), (0 : Int), (0 : Int), (0 : Int))]), List.take x.2.1.2.1.length x.2.1.2.1, ()), y_3.fst, ())) fun y_4 => T.opt (h ((List.take y_4.snd.fst.fst.length y_4.snd.fst.fst, List.take y_4.snd.fst.snd.fst.length y_4.snd.fst.snd.fst, y_4.snd.fst.snd.snd.fst, ()), (List.take y_4.snd.snd.fst.fst.length y_4.snd.snd.fst.fst, List.take y_4.snd.snd.fst.snd.fst.length y_4.snd.snd.fst.snd.fst, ()), y_3.snd, ())) fun y_5 => T.ite (decide ((0 : Int) ≤ (↑x.2.1.1.length : Int)) && decide ((↑x.2.1.1.length : Int) < (↑y_5.snd.snd.fst.fst.length : Int))) (T.opt y_5.snd.snd.fst.fst[(0 : Nat) + (↑x.2.1.1.length : Int).toNat]? fun y_6 => T.ret ((↑x.2.1.1.length : Int), (List.take y_5.snd.fst.fst.length y_5.snd.fst.fst, List.take y_5.snd.fst.snd.fst.length y_5.snd.fst.snd.fst, y_5.snd.fst.snd.snd.fst, ()), (List.take y_5.snd.snd.fst.fst.length (y_5.snd.snd.fst.fst.set ((0 : Nat) + (↑x.2.1.1.length : Int).toNat) (y, y_4.fst, y_5.fst, (0 : Int), (0 : Int))), List.take y_5.snd.snd.fst.snd.fst.length y_5.snd.snd.fst.snd.fst, ()), ())) T.fail))) T.fail
noncomputable def bvh_build.h : Nat → bvh_build.Fun
  | 0, _ => none
  | d + 1, x => (bvh_build.t (bvh_build.h d) x).run
theorem bvh_build.step (h : bvh_build.Fun) (x : lden bvh_build.L) : bodyT Try.prog (bvh_build.fns h) bvh_build.isD noS Try.f24 bvh_build.L bvh_build.L2 2 [TI] x = bvh_build.t h x := by kernel_rfl
theorem bvh_build.none_ok : DentOK Try.prog 24 (bvh_build.ent fun _ => none) := frzD_ok fun args own v own' h => by
  exfalso
  unfold layD at h
  split at h
  · exact run_fail h
  · split at h
    · exact run_fail h
    · split at h
      · exact run_fail h
      · obtain ⟨_, h1, _⟩ := run_opt h; cases h1
theorem bvh_build.tabOk {h : bvh_build.Fun} (hh : DentOK Try.prog 24 (bvh_build.ent h)) : TBOK Try.prog (bvh_build.tab h) :=
  tb_ext (tb_ext (tb_ext (tb_ext tbOk (fresh_deep bvh_builder_cheapest.okF)) (fresh_deep bvh_builder_median.okF)) (frzD_ok (sortI_ok (by kernel_rfl) sorts_int))) hh
theorem bvh_build.next {h : bvh_build.Fun} (hh : DentOK Try.prog 24 (bvh_build.ent h)) : DentOK Try.prog 24 (bvh_build.ent fun x => (bvh_build.t h x).run) :=
  frzD_ok (layD_ok (F := bvh_build.fns h) (D := bvh_build.isD) (S := noS) mixed (quiet_ext (quiet_ext (quiet_ext Xok bvh_builder_around.ok) bvh_builder_middles.ok) box_Longest.ok) (tabD_ok (bvh_build.tabOk hh) (deep_none _)) Try.func24 (by kernel_rfl) (nt := 2) (by kernel_rfl) (by kernel_rfl) rfl rfl (fun n c _ => sok_none _ n c) (by kernel_rfl) (fun x => by kernel_rfl) (fun args own s0 hs => by
    unfold bvh_build.ids at hs
    split at hs
    · rfl
    · cases hs) (fun x y hy => by rw [bvh_build.step h x]; exact hy))
theorem bvh_build.ok : ∀ d, DentOK Try.prog 24 (bvh_build.ent (bvh_build.h d))
  | 0 => bvh_build.none_ok
  | d + 1 => bvh_build.next (bvh_build.ok d)
end Go.Proofs.Pen

namespace Go.Proofs.Pen
open Go Go.Proofs
def bvh_may.L2 : List (Nat × Lay) := [(2, .val .bool), (4, .box TV), (13, .val TTri), (14, .val TI), (17, .val TI)]
noncomputable def bvh_may.t2 (x : Bool × (Option Nat × Option Nat × Option Nat) × ((Option Nat × Option Nat × Option Nat) × (Option Nat × Option Nat × Option Nat) × Option Nat × Option Nat × Option Nat) × Int × Int × Unit) : T (Ex × Bool × (Option Nat × Option Nat × Option Nat) × ((Option Nat × Option Nat × Option Nat) × (Option Nat × Option Nat × Option Nat) × Option Nat × Option Nat × Option Nat) × Int × Int × Unit) := T.ite (decide (x.2.2.2.2.1 < (3 : Int))) (T.opt (vec_Part (x.2.1, x.2.2.2.2.1)) fun y => T.ite (!((ford y (some (13920626448202203136 : Nat)) == some Ordering.gt || ford y (some (13920626448202203136 : Nat)) == some Ordering.eq) && (ford y (some (4697254411347427328 : Nat)) == some Ordering.lt || ford y (some (4697254411347427328 : Nat)) == some Ordering.eq))) (T.ret (Ex.ret, false, x.2.1, x.2.2.1, x.2.2.2.1, x.2.2.2.2.1, ())) (T.ret (Ex.normal, x.1, x.2.1, x.2.2.1, x.2.2.2.1, W (x.2.2.2.2.1 + (1 : Int)), ()))) (T.ret (Ex.exit (2 : Nat), x.1, x.2.1, x.2.2.1, x.2.2.2.1, x.2.2.2.2.1, ()))
noncomputable def bvh_may.l2 (x : Bool × (Option Nat × Option Nat × Option Nat) × ((Option Nat × Option Nat × Option Nat) × (Option Nat × Option Nat × Option Nat) × Option Nat × Option Nat × Option Nat) × Int × Int × Unit) : Option (Ex × Bool × (Option Nat × Option Nat × Option Nat) × ((Option Nat × Option Nat × Option Nat) × (Option Nat × Option Nat × Option Nat) × Option Nat × Option Nat × Option Nat) × Int × Int × Unit) := (iterT bvh_may.t2 rounds x).run
theorem bvh_may.k2 : bodies 2 (lp Try.f21 [0]) = [.loop (loopIn 2 (lp Try.f21 [0]))] ∧ WP Try.prog 0 (.block 2 (.loop (loopIn 2 (lp Try.f21 [0])))) (loopS bvh_may.L2 32 2 [.exit 2, .ret] bvh_may.l2) :=
  loop_tree (L := bvh_may.L2) (F := ({ quiet := (ext Xs 32 vec_Part.q), deep := noDeep } : Fns)) (D := D0) (tab := []) (t := bvh_may.t2) mixed (quiet_ext Xok vec_Part.ok) (deep_none _) (fun _ => rfl) (by kernel_rfl) (by kernel_rfl) trivial (fun x => by kernel_rfl)
def bvh_may.L0 : List (Nat × Lay) := [(2, .val .bool), (13, .val TTri), (14, .val TI)]
noncomputable def bvh_may.t0 (x : Bool × ((Option Nat × Option Nat × Option Nat) × (Option Nat × Option Nat × Option Nat) × Option Nat × Option Nat × Option Nat) × Int × Unit) : T (Ex × Bool × ((Option Nat × Option Nat × Option Nat) × (Option Nat × Option Nat × Option Nat) × Option Nat × Option Nat × Option Nat) × Int × Unit) := T.ite (decide (x.2.2.1 < (3 : Int))) (T.ite (x.2.2.1 == (↑(0 : Nat) : Int)) (T.opt (bvh_may.l2 (x.1, x.2.1.1, x.2.1, x.2.2.1, (0 : Int), ())) fun y => T.ite (exEq y.1 (Ex.exit (2 : Nat))) (T.ret (Ex.normal, y.2.1, y.2.2.2.1, W (y.2.2.2.2.1 + (1 : Int)), ())) (T.ite (exEq y.1 Ex.ret) (T.ret (Ex.ret, y.2.1, y.2.2.2.1, y.2.2.2.2.1, ())) T.fail)) (T.ite (x.2.2.1 == (↑((0 : Nat) + (1 : Nat)) : Int)) (T.opt (bvh_may.l2 (x.1, x.2.1.2.1, x.2.1, x.2.2.1, (0 : Int), ())) fun y => T.ite (exEq y.1 (Ex.exit (2 : Nat))) (T.ret (Ex.normal, y.2.1, y.2.2.2.1, W (y.2.2.2.2.1 + (1 : Int)), ())) (T.ite (exEq y.1 Ex.ret) (T.ret (Ex.ret, y.2.1, y.2.2.2.1, y.2.2.2.2.1, ())) T.fail)) (T.ite (x.2.2.1 == (↑((0 : Nat) + (1 : Nat) + (1 : Nat)) : Int)) (T.opt (bvh_may.l2 (x.1, x.2.1.2.2, x.2.1, x.2.2.1, (0 : Int), ())) fun y => T.ite (exEq y.1 (Ex.exit (2 : Nat))) (T.ret (Ex.normal, y.2.1, y.2.2.2.1, W (y.2.2.2.2.1 + (1 : Int)), ())) (T.ite (exEq y.1 Ex.ret) (T.ret (Ex.ret, y.2.1, y.2.2.2.1, y.2.2.2.2.1, ())) T.fail)) T.fail))) (T.ret (Ex.exit (0 : Nat), x.1, x.2.1, x.2.2.1, ()))
noncomputable def bvh_may.l0 (x : Bool × ((Option Nat × Option Nat × Option Nat) × (Option Nat × Option Nat × Option Nat) × Option Nat × Option Nat × Option Nat) × Int × Unit) : Option (Ex × Bool × ((Option Nat × Option Nat × Option Nat) × (Option Nat × Option Nat × Option Nat) × Option Nat × Option Nat × Option Nat) × Int × Unit) := (iterT bvh_may.t0 rounds x).run
theorem bvh_may.k0 : bodies 0 (lp Try.f21 []) = [.loop (loopIn 0 (lp Try.f21 []))] ∧ WP Try.prog 0 (.block 0 (.loop (loopIn 0 (lp Try.f21 [])))) (loopS bvh_may.L0 32 0 [.exit 0, .ret] bvh_may.l0) :=
  loop_tree (L := bvh_may.L0) (F := ({ quiet := (ext Xs 32 vec_Part.q), deep := noDeep } : Fns)) (D := D0) (tab := [(2, loopS bvh_may.L2 32 2 [.exit 2, .ret] bvh_may.l2)]) (t := bvh_may.t0) mixed (quiet_ext Xok vec_Part.ok) (deep_none _) (fun _ => rfl) (by kernel_rfl) (by kernel_rfl) ⟨bvh_may.k2, trivial⟩ (fun x => by kernel_rfl)
noncomputable def bvh_may.t (x : ((Option Nat × Option Nat × Option Nat) × (Option Nat × Option Nat × Option Nat) × Option Nat × Option Nat × Option Nat)) : T (Bool) := T.opt (bvh_may.l0 (false, x, (0 : Int), ())) fun y => T.ite (exEq y.1 (Ex.exit (0 : Nat))) (T.ret true) (T.ite (exEq y.1 Ex.ret) (T.ret y.2.1) T.fail)
noncomputable def bvh_may (x : ((Option Nat × Option Nat × Option Nat) × (Option Nat × Option Nat × Option Nat) × Option Nat × Option Nat × Option Nat)) : Option (Bool) := (bvh_may.t x).run
noncomputable def bvh_may.q : List AV → T AV := entry [TTri] (outR [.bool]) fun x => .opt (bvh_may x) .ret
theorem bvh_may.ok : FnOK Try.prog 21 bvh_may.q :=
  entry_call (ps := [TTri]) (rs := [.bool]) (F := ({ quiet := (ext Xs 32 vec_Part.q), deep := noDeep } : Fns)) (D := D0) (S := tabS [(0, loopS bvh_may.L0 32 0 [.exit 0, .ret] bvh_may.l0)]) (t := bvh_may.t) mixed (quiet_ext Xok vec_Part.ok) (deep_none _) Try.func21 (by kernel_rfl) (sok_fn ⟨bvh_may.k0, trivial⟩) (by kernel_rfl) (fun x => by kernel_rfl)
end Go.Proofs.Pen

namespace Go.Proofs.Pen
open Go Go.Proofs
noncomputable def box_Of.t (x : ((Option Nat × Option Nat × Option Nat) × (Option Nat × Option Nat × Option Nat) × Option Nat × Option Nat × Option Nat)) : T (((Option Nat × Option Nat × Option Nat) × Option Nat × Option Nat × Option Nat)) := T.opt (box_Empty ()) fun y => T.opt (box_Grow (y, x.1)) fun y => T.opt (box_Grow (y, x.2.1)) fun y => T.opt (box_Grow (y, x.2.2)) fun y => T.ret y
noncomputable def box_Of (x : ((Option Nat × Option Nat × Option Nat) × (Option Nat × Option Nat × Option Nat) × Option Nat × Option Nat × Option Nat)) : Option (((Option Nat × Option Nat × Option Nat) × Option Nat × Option Nat × Option Nat)) := (box_Of.t x).run
noncomputable def box_Of.q : List AV → T AV := entry [TTri] (outR [TBox]) fun x => .opt (box_Of x) .ret
theorem box_Of.ok : FnOK Try.prog 22 box_Of.q :=
  entry_call (ps := [TTri]) (rs := [TBox]) (F := ({ quiet := (ext (ext Xs 34 box_Empty.q) 33 box_Grow.q), deep := noDeep } : Fns)) (D := D0) (S := tabS []) (t := box_Of.t) mixed (quiet_ext (quiet_ext Xok box_Empty.ok) box_Grow.ok) (deep_none _) Try.func22 (by kernel_rfl) (sok_fn trivial) (by kernel_rfl) (fun x => by kernel_rfl)
end Go.Proofs.Pen

namespace Go.Proofs.Pen
open Go Go.Proofs
noncomputable def eachAdd.t (x : (Option Nat × Option Nat × Option Nat) × (Option Nat × Option Nat × Option Nat) × Unit) : T ((Option Nat × Option Nat × Option Nat)) := T.ret (fop BinOp.add x.1.1 x.2.1.1, fop BinOp.add x.1.2.1 x.2.1.2.1, fop BinOp.add x.1.2.2 x.2.1.2.2)
noncomputable def eachAdd.q : List AV → T AV := entry [TV, TV, (.clo 48 .unit)] (outR [TV]) eachAdd.t
theorem eachAdd.ok : FnOK Try.prog 47 eachAdd.q :=
  entry_in (ps := [TV, TV, (.clo 48 .unit)]) (rs := [TV]) (F := ({ quiet := (ext (ext (ext Xs 48 vec_Add_1.q) 75 vec_Sub_1.q) 63 vec_Mul_1.q), deep := noDeep } : Fns)) (D := D0) (S := tabS []) (t := eachAdd.t) mixed (quiet_ext (quiet_ext (quiet_ext Xok vec_Add_1.ok) vec_Sub_1.ok) vec_Mul_1.ok) (deep_none _) Try.func47 (by kernel_rfl) (sok_fn trivial) (by kernel_rfl) (fun x => by kernel_rfl)
end Go.Proofs.Pen

namespace Go.Proofs.Pen
open Go Go.Proofs
noncomputable def vec_Add.t (x : (Option Nat × Option Nat × Option Nat) × (Option Nat × Option Nat × Option Nat)) : T ((Option Nat × Option Nat × Option Nat)) := T.ret (fop BinOp.add x.1.1 x.2.1, fop BinOp.add x.1.2.1 x.2.2.1, fop BinOp.add x.1.2.2 x.2.2.2)
noncomputable def vec_Add (x : (Option Nat × Option Nat × Option Nat) × (Option Nat × Option Nat × Option Nat)) : Option ((Option Nat × Option Nat × Option Nat)) := (vec_Add.t x).run
noncomputable def vec_Add.q : List AV → T AV := entry [TV, TV] (outR [TV]) fun x => .opt (vec_Add x) .ret
theorem vec_Add.ok : FnOK Try.prog 36 vec_Add.q :=
  entry_call (ps := [TV, TV]) (rs := [TV]) (F := ({ quiet := (ext Xs 47 eachAdd.q), deep := noDeep } : Fns)) (D := D0) (S := tabS []) (t := vec_Add.t) mixed (quiet_ext Xok eachAdd.ok) (deep_none _) Try.func36 (by kernel_rfl) (sok_fn trivial) (by kernel_rfl) (fun x => by kernel_rfl)
end Go.Proofs.Pen

namespace Go.Proofs.Pen
open Go Go.Proofs
noncomputable def eachMul.t (x : (Option Nat × Option Nat × Option Nat) × (Option Nat × Option Nat × Option Nat) × Unit) : T ((Option Nat × Option Nat × Option Nat)) := T.ret (fop BinOp.mul x.1.1 x.2.1.1, fop BinOp.mul x.1.2.1 x.2.1.2.1, fop BinOp.mul x.1.2.2 x.2.1.2.2)
noncomputable def eachMul.q : List AV → T AV := entry [TV, TV, (.clo 63 .unit)] (outR [TV]) eachMul.t
theorem eachMul.ok : FnOK Try.prog 47 eachMul.q :=
  entry_in (ps := [TV, TV, (.clo 63 .unit)]) (rs := [TV]) (F := ({ quiet := (ext (ext (ext Xs 48 vec_Add_1.q) 75 vec_Sub_1.q) 63 vec_Mul_1.q), deep := noDeep } : Fns)) (D := D0) (S := tabS []) (t := eachMul.t) mixed (quiet_ext (quiet_ext (quiet_ext Xok vec_Add_1.ok) vec_Sub_1.ok) vec_Mul_1.ok) (deep_none _) Try.func47 (by kernel_rfl) (sok_fn trivial) (by kernel_rfl) (fun x => by kernel_rfl)
end Go.Proofs.Pen

namespace Go.Proofs.Pen
open Go Go.Proofs
noncomputable def vec_Mul.t (x : (Option Nat × Option Nat × Option Nat) × (Option Nat × Option Nat × Option Nat)) : T ((Option Nat × Option Nat × Option Nat)) := T.ret (fop BinOp.mul x.1.1 x.2.1, fop BinOp.mul x.1.2.1 x.2.2.1, fop BinOp.mul x.1.2.2 x.2.2.2)
noncomputable def vec_Mul.q : List AV → T AV := entry [TV, TV] (outR [TV]) vec_Mul.t
theorem vec_Mul.ok : FnOK Try.prog 46 vec_Mul.q :=
  entry_in (ps := [TV, TV]) (rs := [TV]) (F := ({ quiet := (ext Xs 47 eachMul.q), deep := noDeep } : Fns)) (D := D0) (S := tabS []) (t := vec_Mul.t) mixed (quiet_ext Xok eachMul.ok) (deep_none _) Try.func46 (by kernel_rfl) (sok_fn trivial) (by kernel_rfl) (fun x => by kernel_rfl)
end Go.Proofs.Pen

namespace Go.Proofs.Pen
open Go Go.Proofs
noncomputable def vec_Scale.t (x : (Option Nat × Option Nat × Option Nat) × (Option Nat)) : T ((Option Nat × Option Nat × Option Nat)) := T.ret (fop BinOp.mul x.1.1 x.2, fop BinOp.mul x.1.2.1 x.2, fop BinOp.mul x.1.2.2 x.2)
noncomputable def vec_Scale.q : List AV → T AV := entry [TV, .flt] (outR [TV]) vec_Scale.t
theorem vec_Scale.ok : FnOK Try.prog 35 vec_Scale.q :=
  entry_in (ps := [TV, .flt]) (rs := [TV]) (F := ({ quiet := (ext (ext Xs 46 vec_Mul.q) 63 vec_Mul_1.q), deep := noDeep } : Fns)) (D := D0) (S := tabS []) (t := vec_Scale.t) mixed (quiet_ext (quiet_ext Xok vec_Mul.ok) vec_Mul_1.ok) (deep_none _) Try.func35 (by kernel_rfl) (sok_fn trivial) (by kernel_rfl) (fun x => by kernel_rfl)
end Go.Proofs.Pen

namespace Go.Proofs.Pen
open Go Go.Proofs
noncomputable def box_Mid.t (x : ((Option Nat × Option Nat × Option Nat) × Option Nat × Option Nat × Option Nat)) : T ((Option Nat × Option Nat × Option Nat)) := T.opt (vec_Add x) fun y => T.ret (fop BinOp.mul y.1 (some (4602678819172646912 : Nat)), fop BinOp.mul y.2.1 (some (4602678819172646912 : Nat)), fop BinOp.mul y.2.2 (some (4602678819172646912 : Nat)))
noncomputable def box_Mid (x : ((Option Nat × Option Nat × Option Nat) × Option Nat × Option Nat × Option Nat)) : Option ((Option Nat × Option Nat × Option Nat)) := (box_Mid.t x).run
noncomputable def box_Mid.q : List AV → T AV := entry [TBox] (outR [TV]) fun x => .opt (box_Mid x) .ret
theorem box_Mid.ok : FnOK Try.prog 23 box_Mid.q :=
  entry_call (ps := [TBox]) (rs := [TV]) (F := ({ quiet := (ext (ext (ext (ext Xs 36 vec_Add.q) 35 vec_Scale.q) 48 vec_Add_1.q) 63 vec_Mul_1.q), deep := noDeep } : Fns)) (D := D0) (S := tabS []) (t := box_Mid.t) mixed (quiet_ext (quiet_ext (quiet_ext (quiet_ext Xok vec_Add.ok) vec_Scale.ok) vec_Add_1.ok) vec_Mul_1.ok) (deep_none _) Try.func23 (by kernel_rfl) (sok_fn trivial) (by kernel_rfl) (fun x => by kernel_rfl)
end Go.Proofs.Pen

namespace Go.Proofs.Pen
open Go Go.Proofs
noncomputable def bvh_New.deeps : Deeps := { D := [24], C := [], frz := false, S := fun _ _ => noS }
theorem bvh_New.deepsOk : LoopsOK Try.prog bvh_New.deeps.S := (loops_none _)
noncomputable def bvh_New.tabl : DTab := (tbExt tb 24 (bvh_build.ent (bvh_build.h 1000)))
theorem bvh_New.tablOk : TBOK Try.prog bvh_New.tabl := (tb_ext tbOk (bvh_build.ok 1000))
def bvh_New.L0 : List (Nat × Lay) := [(16, .obx [.own TNode, .own TI]), (4, .lit .nilp), (5, .val TI), (6, .obx [.own TBox, .own TV, .dat .bool, .pt 0]), (7, .row TI), (19, .val (.sl TTri)), (20, .val TI), (21, .val TI)]
noncomputable def bvh_New.t0 (x : (List (((Option Nat × Option Nat × Option Nat) × Option Nat × Option Nat × Option Nat) × Int × Int × Int × Int) × List Int × Unit) × Int × (List ((Option Nat × Option Nat × Option Nat) × Option Nat × Option Nat × Option Nat) × List (Option Nat × Option Nat × Option Nat) × Bool × Unit) × List Int × (List ((Option Nat × Option Nat × Option Nat) × (Option Nat × Option Nat × Option Nat) × Option Nat × Option Nat × Option Nat)) × Int × Int × Unit) : T (Ex × (List (((Option Nat × Option Nat × Option Nat) × Option Nat × Option Nat × Option Nat) × Int × Int × Int × Int) × List Int × Unit) × Int × (List ((Option Nat × Option Nat × Option Nat) × Option Nat × Option Nat × Option Nat) × List (Option Nat × Option Nat × Option Nat) × Bool × Unit) × List Int × (List ((Option Nat × Option Nat × Option Nat) × (Option Nat × Option Nat × Option Nat) × Option Nat × Option Nat × Option Nat)) × Int × Int × Unit) := T.ite (decide (x.2.2.2.2.2.2.1 < x.2.2.2.2.2.1)) (T.opt (lget x.2.2.2.2.1 x.2.2.2.2.2.2.1) fun y => T.opt (bvh_may y) fun y_1 => T.ite (!y_1) (T.ret (Ex.ret, (List.take x.1.1.length x.1.1, List.take x.1.2.1.length x.1.2.1, ()), (2 : Int), (List.take x.2.2.1.1.length x.2.2.1.1, List.take x.2.2.1.2.1.length x.2.2.1.2.1, x.2.2.1.2.2.1, ()), List.take x.2.2.2.1.length x.2.2.2.1, x.2.2.2.2.1, x.2.2.2.2.2.1, x.2.2.2.2.2.2.1, ())) (T.opt (box_Of y) fun y => T.ite (decide ((x.2.2.1.1.length + (1 : Nat)) * nat_lit 48 ≤ most)) (T.opt (box_Mid y) fun y_2 => T.ite (decide ((x.2.2.1.2.1.length + (1 : Nat)) * nat_lit 24 ≤ most)) (T.ite (decide ((x.2.2.2.1.length + (1 : Nat)) * nat_lit 8 ≤ most)) (T.ret (Ex.normal, (List.take x.1.1.length x.1.1, List.take x.1.2.1.length x.1.2.1, ()), x.2.1, (List.take (x.2.2.1.1.length + (1 : Nat)) (List.take x.2.2.1.1.length x.2.2.1.1 ++ [y]), List.take (x.2.2.1.2.1.length + (1 : Nat)) (List.take x.2.2.1.2.1.length x.2.2.1.2.1 ++ [y_2]), x.2.2.1.2.2.1, ()), List.take (x.2.2.2.1.length + (1 : Nat)) (List.take x.2.2.2.1.length x.2.2.2.1 ++ [x.2.2.2.2.2.2.1]), x.2.2.2.2.1, x.2.2.2.2.2.1, W (x.2.2.2.2.2.2.1 + (1 : Int)), ())) T.fail) T.fail) T.fail)) (T.ret (Ex.exit (0 : Nat), (List.take x.1.1.length x.1.1, List.take x.1.2.1.length x.1.2.1, ()), x.2.1, (List.take x.2.2.1.1.length x.2.2.1.1, List.take x.2.2.1.2.1.length x.2.2.1.2.1, x.2.2.1.2.2.1, ()), List.take x.2.2.2.1.length x.2.2.2.1, x.2.2.2.2.1, x.2.2.2.2.2.1, x.2.2.2.2.2.2.1, ()))
noncomputable def bvh_New.l0 (x : (List (((Option Nat × Option Nat × Option Nat) × Option Nat × Option Nat × Option Nat) × Int × Int × Int × Int) × List Int × Unit) × Int × (List ((Option Nat × Option Nat × Option Nat) × Option Nat × Option Nat × Option Nat) × List (Option Nat × Option Nat × Option Nat) × Bool × Unit) × List Int × (List ((Option Nat × Option Nat × Option Nat) × (Option Nat × Option Nat × Option Nat) × Option Nat × Option Nat × Option Nat)) × Int × Int × Unit) : Option (Ex × (List (((Option Nat × Option Nat × Option Nat) × Option Nat × Option Nat × Option Nat) × Int × Int × Int × Int) × List Int × Unit) × Int × (List ((Option Nat × Option Nat × Option Nat) × Option Nat × Option Nat × Option Nat) × List (Option Nat × Option Nat × Option Nat) × Bool × Unit) × List Int × (List ((Option Nat × Option Nat × Option Nat) × (Option Nat × Option Nat × Option Nat) × Option Nat × Option Nat × Option Nat)) × Int × Int × Unit) := (iterT bvh_New.t0 rounds x).run
theorem bvh_New.k0 : bodies 0 (lp Try.f8 []) = [.loop (loopIn 0 (lp Try.f8 []))] ∧ WP Try.prog 0 (.block 0 (.loop (loopIn 0 (lp Try.f8 [])))) (loopS bvh_New.L0 64 0 [.exit 0, .ret] bvh_New.l0) :=
  loop_tree (L := bvh_New.L0) (F := (dpT Try.prog (ext (ext (ext (ext (ext (ext (ext (ext Xs 21 bvh_may.q) 22 box_Of.q) 23 box_Mid.q) 48 vec_Add_1.q) 54 bvh_builder_median_1.q) 56 bvh_builder_median_2.q) 63 vec_Mul_1.q) 75 vec_Sub_1.q) bvh_New.deeps bvh_New.tabl 100 8)) (D := (inL bvh_New.deeps.D)) (tab := []) (t := bvh_New.t0) mixed (dpT_ok mixed (quiet_ext (quiet_ext (quiet_ext (quiet_ext (quiet_ext (quiet_ext (quiet_ext (quiet_ext Xok bvh_may.ok) box_Of.ok) box_Mid.ok) vec_Add_1.ok) bvh_builder_median_1.ok) bvh_builder_median_2.ok) vec_Mul_1.ok) vec_Sub_1.ok) bvh_New.deepsOk bvh_New.tablOk 100 8).1 (dpT_ok mixed (quiet_ext (quiet_ext (quiet_ext (quiet_ext (quiet_ext (quiet_ext (quiet_ext (quiet_ext Xok bvh_may.ok) box_Of.ok) box_Mid.ok) vec_Add_1.ok) bvh_builder_median_1.ok) bvh_builder_median_2.ok) vec_Mul_1.ok) vec_Sub_1.ok) bvh_New.deepsOk bvh_New.tablOk 100 8).2 (fun _ => rfl) (by kernel_rfl) (by kernel_rfl) trivial (fun x => by kernel_rfl)
noncomputable def bvh_New.t (x : (List ((Option Nat × Option Nat × Option Nat) × (Option Nat × Option Nat × Option Nat) × Option Nat × Option Nat × Option Nat)) × Bool) : T (Option ((List (((Option Nat × Option Nat × Option Nat) × Option Nat × Option Nat × Option Nat) × Int × Int × Int × Int)) × List (Int)) × Int) := T.ite (decide ((↑(List.length x.1) : Int) > (512 : Int))) (T.ret (none, (4 : Int))) (T.opt (bvh_New.l0 (([], [], ()), (0 : Int), ([], [], x.2, ()), [], x.1, (↑(List.length x.1) : Int), (0 : Int), ())) fun y => T.ite (exEq y.1 (Ex.exit (0 : Nat))) (T.opt (bvh_build.h (1000 : Nat) ((List.take y.2.2.2.1.1.length y.2.2.2.1.1, List.take y.2.2.2.1.2.1.length y.2.2.2.1.2.1, y.2.2.2.1.2.2.1, ()), (List.take y.2.1.1.length y.2.1.1, List.take y.2.1.2.1.length y.2.1.2.1, ()), List.take y.2.2.2.2.1.length y.2.2.2.2.1, ())) fun y => T.ret (some (List.take y.2.2.1.1.length y.2.2.1.1, List.take y.2.2.1.2.1.length y.2.2.1.2.1), (0 : Int))) (T.ite (exEq y.1 Ex.ret) (T.ret (none, y.2.2.1)) T.fail))
noncomputable def bvh_New (x : (List ((Option Nat × Option Nat × Option Nat) × (Option Nat × Option Nat × Option Nat) × Option Nat × Option Nat × Option Nat)) × Bool) : Option (Option ((List (((Option Nat × Option Nat × Option Nat) × Option Nat × Option Nat × Option Nat) × Int × Int × Int × Int)) × List (Int)) × Int) := (bvh_New.t x).run
noncomputable def bvh_New.q : List AV → T AV := entryNP [(.sl TTri), .bool] TTree .i64 bvh_New
theorem bvh_New.ok : FnOK Try.prog 8 bvh_New.q :=
  entry_np (ps := [(.sl TTri), .bool]) (tt := TTree) (kk := .i64) (F := (dpT Try.prog (ext (ext (ext (ext (ext (ext (ext (ext Xs 21 bvh_may.q) 22 box_Of.q) 23 box_Mid.q) 48 vec_Add_1.q) 54 bvh_builder_median_1.q) 56 bvh_builder_median_2.q) 63 vec_Mul_1.q) 75 vec_Sub_1.q) bvh_New.deeps bvh_New.tabl 100 8)) (D := (inL bvh_New.deeps.D)) (S := tabS [(0, loopS bvh_New.L0 64 0 [.exit 0, .ret] bvh_New.l0)]) (t := bvh_New.t) mixed (dpT_ok mixed (quiet_ext (quiet_ext (quiet_ext (quiet_ext (quiet_ext (quiet_ext (quiet_ext (quiet_ext Xok bvh_may.ok) box_Of.ok) box_Mid.ok) vec_Add_1.ok) bvh_builder_median_1.ok) bvh_builder_median_2.ok) vec_Mul_1.ok) vec_Sub_1.ok) bvh_New.deepsOk bvh_New.tablOk 100 8).1 (dpT_ok mixed (quiet_ext (quiet_ext (quiet_ext (quiet_ext (quiet_ext (quiet_ext (quiet_ext (quiet_ext Xok bvh_may.ok) box_Of.ok) box_Mid.ok) vec_Add_1.ok) bvh_builder_median_1.ok) bvh_builder_median_2.ok) vec_Mul_1.ok) vec_Sub_1.ok) bvh_New.deepsOk bvh_New.tablOk 100 8).2 Try.func8 (by kernel_rfl) (sok_fn ⟨bvh_New.k0, trivial⟩) (by kernel_rfl) (fun x => by kernel_rfl)
end Go.Proofs.Pen

namespace Go.Proofs.Pen
open Go Go.Proofs
set_option maxRecDepth 100000
noncomputable def law12_awake.tabl : DTab := (tbExt tb 8 (frzQ bvh_New.q))
theorem law12_awake.tablOk : TBOK Try.prog law12_awake.tabl := (tb_ext tbOk (frzQ_ok bvh_New.ok))
noncomputable def law12_awake.q : List AV → T AV := entry [] (outR [.bool]) fun _ => .ret (true : dens [.bool])
theorem law12_awake.ok : FnOK Try.prog 7 law12_awake.q := peT_entry mixed (quiet_ext (quiet_ext (quiet_ext (quiet_ext (quiet_ext (quiet_ext Xok bvh_Tree_Nodes.ok) bvh_Tree_Order.ok) bvh_Tree_Depth.ok) bvh_Tree_Tri.ok) ref01_Ints.ok) bvh_New.ok) [13, 9, 18, 20, 10] law12_awake.tablOk 300 40 Try.func7 (by kernel_rfl) (by kernel_rfl)
end Go.Proofs.Pen

namespace Go.Proofs.Pen
open Go Go.Proofs
noncomputable def law12_BvhNone.deeps : Deeps := { D := [19, 17, 13, 9, 18, 31, 20], C := [], frz := false, S := fun _ _ => noS }
theorem law12_BvhNone.deepsOk : LoopsOK Try.prog law12_BvhNone.deeps.S := (loops_none _)
noncomputable def law12_BvhNone.t (_ : Int) : T (Bool) := T.ite true (T.ite (W (W ((0 : Int) + (0 : Int)) + (0 : Int)) == (0 : Int)) (T.ite ((-1 : Int) == (-1 : Int)) (T.ite (ford (some (0 : Nat)) (some (0 : Nat)) == some Ordering.eq && (ford (some (0 : Nat)) (some (0 : Nat)) == some Ordering.eq && ford (some (0 : Nat)) (some (0 : Nat)) == some Ordering.eq) && (ford (some (0 : Nat)) (some (0 : Nat)) == some Ordering.eq && (ford (some (0 : Nat)) (some (0 : Nat)) == some Ordering.eq && ford (some (0 : Nat)) (some (0 : Nat)) == some Ordering.eq)) && ((0 : Int) == (0 : Int) && ((0 : Int) == (0 : Int) && ((0 : Int) == (0 : Int) && (0 : Int) == (0 : Int))))) (T.ret (ford (some (0 : Nat)) (some (0 : Nat)) == some Ordering.eq && (ford (some (0 : Nat)) (some (0 : Nat)) == some Ordering.eq && ford (some (0 : Nat)) (some (0 : Nat)) == some Ordering.eq) && (ford (some (0 : Nat)) (some (0 : Nat)) == some Ordering.eq && (ford (some (0 : Nat)) (some (0 : Nat)) == some Ordering.eq && ford (some (0 : Nat)) (some (0 : Nat)) == some Ordering.eq)) && ((0 : Int) == (0 : Int) && ((0 : Int) == (0 : Int) && ((0 : Int) == (0 : Int) && (0 : Int) == (0 : Int)))))) (T.ret false)) (T.ret false)) (T.ret false)) (T.ret false)
noncomputable def law12_BvhNone (x : Int) : Option (Bool) := (law12_BvhNone.t x).run
noncomputable def law12_BvhNone.q : List AV → T AV := entry [TI] (outR [.bool]) fun x => .opt (law12_BvhNone x) .ret
theorem law12_BvhNone.ok : FnOK Try.prog 4 law12_BvhNone.q :=
  entry_call (ps := [TI]) (rs := [.bool]) (F := (dp Try.prog (ext Xs 7 law12_awake.q) law12_BvhNone.deeps 100 8)) (D := (inL law12_BvhNone.deeps.D)) (S := tabS []) (t := law12_BvhNone.t) mixed (dp_ok mixed (quiet_ext Xok law12_awake.ok) law12_BvhNone.deepsOk 100 8).1 (dp_ok mixed (quiet_ext Xok law12_awake.ok) law12_BvhNone.deepsOk 100 8).2 Try.func4 (by kernel_rfl) (sok_fn trivial) (by kernel_rfl) (fun x => by kernel_rfl)
end Go.Proofs.Pen

namespace Go.Proofs.Pen
open Go Go.Proofs
theorem BvhNone_all (x : dens [TI]) (_ : insAll [TI] x) : (law12_BvhNone.t x).run = some true := by kernel_rfl
end Go.Proofs.Pen
