/- A part of the proof that the law BvhSound is true of every input: models of the functions that the law reaches, and what holds of them. -/
import Derived.Shelf.Small.Bits
import Derived.Shelf.Small.Wraps
import Derived.Shelf.Strconv.Itoa0
import Derived.Shelf.Sort.Plain
import Derived.Ground.Names2Prog
import Derived.Shelf.Slices.Clone
import Derived.Shelf.Slices.SearchI
import Derived.Shelf.Slices.In.SortNone
import Derived.Ground.SlgnProg
import Derived.Shelf.SlicesE.Clone
import Derived.Ground.SlsfProg
import Derived.Shelf.SlSortCmp.Insertion
import Derived.Shelf.SlSortCmp.SiftDown1
import Derived.Shelf.SlSortCmp.HeapSort1
import Derived.Shelf.SlSortCmp.Insertion1
import Derived.Shelf.SlSortCmp.Median1
import Derived.Shelf.SlSortCmp.Pivot1
import Derived.Shelf.SlSortCmp.ReverseRange1
import Derived.Shelf.SlSortCmp.PartialInsertion1
import Derived.Shelf.SlSortCmp.PartitionEqual1
import Derived.Shelf.SlSortCmp.Partition1
import Derived.Shelf.SlSortCmp.Pdq1
import Derived.Shelf.SlSortCmp.Whole1
import Derived.Shelf.SlSortCmp.NoneTotal
import Derived.Test.YtncgifjccpngfaaProg
import Derived.Test.YtncgifjccpngfaaChecked
import Derived.KernelRfl
import Derived.Test.YtncgifjccpngfaaPenKit0
import Derived.Test.YtncgifjccpngfaaPenKit1
import Derived.Test.YtncgifjccpngfaaPenKit2
import Derived.Test.YtncgifjccpngfaaPenKit3
import Derived.Test.YtncgifjccpngfaaPenBvhSound4
import Derived.Test.YtncgifjccpngfaaPenKit5
namespace Go.Proofs
open Go.Shelf
def Try.lays189_ren : Go.Shelf.Ren := ⟨fun | 189 => 38 | 125 => 50 | 257 => 49 | 128 => 73 | 129 => 74 | 294 => 64 | 295 => 65 | 296 => 66 | 297 => 67 | 298 => 68 | 299 => 69 | 216 => 70 | 300 => 71 | 301 => 72 | 328 => 80 | 329 => 81 | 330 => 82 | 331 => 83 | 332 => 84 | 215 => 79 | 343 => 93 | n => n, fun | 28 => 35 | 3 => 3 | 46 => 85 | 0 => 0 | 51 => 105 | 53 => 93 | 4 => 4 | 183 => 97 | 182 => 96 | 131 => 102 | 5 => 5 | 9 => 9 | 218 => 110 | 222 => 114 | 228 => 121 | 229 => 122 | n => n, fun | n => n⟩
theorem Try.lays189 : Go.Proofs.Lays.n189 Try.prog Try.lays189_ren := {
  mixed := by kernel_rfl
  f125 := Try.func50.trans (congrArg some (by kernel_rfl))
  f128 := Try.func73.trans (congrArg some (by kernel_rfl))
  f129 := Try.func74.trans (congrArg some (by kernel_rfl))
  f189 := Try.func38.trans (congrArg some (by kernel_rfl))
  f215 := Try.func79.trans (congrArg some (by kernel_rfl))
  f216 := Try.func70.trans (congrArg some (by kernel_rfl))
  f257 := Try.func49.trans (congrArg some (by kernel_rfl))
  f294 := Try.func64.trans (congrArg some (by kernel_rfl))
  f295 := Try.func65.trans (congrArg some (by kernel_rfl))
  f296 := Try.func66.trans (congrArg some (by kernel_rfl))
  f297 := Try.func67.trans (congrArg some (by kernel_rfl))
  f298 := Try.func68.trans (congrArg some (by kernel_rfl))
  f299 := Try.func69.trans (congrArg some (by kernel_rfl))
  f300 := Try.func71.trans (congrArg some (by kernel_rfl))
  f301 := Try.func72.trans (congrArg some (by kernel_rfl))
  f328 := Try.func80.trans (congrArg some (by kernel_rfl))
  f329 := Try.func81.trans (congrArg some (by kernel_rfl))
  f330 := Try.func82.trans (congrArg some (by kernel_rfl))
  f331 := Try.func83.trans (congrArg some (by kernel_rfl))
  f332 := Try.func84.trans (congrArg some (by kernel_rfl))
  f343 := Try.func93.trans (congrArg some (by kernel_rfl))
  t0 := Try.underlying0
  a0 := Try.isAgg0
  z0 := Try.sizeOf0
  v0 := Try.zeroValue0
  t3 := Try.underlying3
  a3 := Try.isAgg3
  z3 := Try.sizeOf3
  v3 := Try.zeroValue3
  t4 := Try.underlying4
  a4 := Try.isAgg4
  z4 := Try.sizeOf4
  v4 := Try.zeroValue4
  t5 := Try.underlying5
  a5 := Try.isAgg5
  z5 := Try.sizeOf5
  v5 := Try.zeroValue5
  t9 := Try.underlying9
  a9 := Try.isAgg9
  z9 := Try.sizeOf9
  v9 := Try.zeroValue9
  t28 := Try.underlying35
  a28 := Try.isAgg35
  z28 := Try.sizeOf35
  v28 := Try.zeroValue35
  t46 := Try.underlying85
  a46 := Try.isAgg85
  z46 := Try.sizeOf85
  v46 := Try.zeroValue85
  t51 := Try.underlying105
  a51 := Try.isAgg105
  z51 := Try.sizeOf105
  v51 := Try.zeroValue105
  t53 := Try.underlying93
  a53 := Try.isAgg93
  z53 := Try.sizeOf93
  v53 := Try.zeroValue93
  t131 := Try.underlying102
  a131 := Try.isAgg102
  z131 := Try.sizeOf102
  v131 := Try.zeroValue102
  t182 := Try.underlying96
  a182 := Try.isAgg96
  z182 := Try.sizeOf96
  v182 := Try.zeroValue96
  t183 := Try.underlying97
  a183 := Try.isAgg97
  z183 := Try.sizeOf97
  v183 := Try.zeroValue97
  t218 := Try.underlying110
  a218 := Try.isAgg110
  z218 := Try.sizeOf110
  v218 := Try.zeroValue110
  t222 := Try.underlying114
  a222 := Try.isAgg114
  z222 := Try.sizeOf114
  v222 := Try.zeroValue114
  t228 := Try.underlying121
  a228 := Try.isAgg121
  z228 := Try.sizeOf121
  v228 := Try.zeroValue121
  t229 := Try.underlying122
  a229 := Try.isAgg122
  z229 := Try.sizeOf122
  v229 := Try.zeroValue122 }
open Go.Sort Go.RowKit in
theorem Try.slices_Sort_int (blk off cap : Nat) (zs : List Int) (w : World) (hH : Holds (Value.int .i64) w blk off zs.toArray) (hblk : blk < w.heap.size) (hsz : zs.length < 4611686018427387904) :
    Calls Try.prog 38 #[.slice (some ⟨blk, off, none⟩) zs.length cap] w fun e w' =>
      e = .returned (.tuple #[]) ∧ ∃ n os, w' = grow (putRow (Value.int .i64) (Sort.ahead w n) blk off (zs.mergeSort fun x y => decide (x ≤ y)).toArray) os := Any.slices_Sort_int Try.lays189 blk off cap zs w hH hblk hsz
open Go.RowKit Go.Sort in
theorem Try.slices_Sort_int_none (p : Option Addr) (cap : Nat) (w : World) :
    Calls Try.prog 38 #[.slice p 0 cap] w fun e w' => e = .returned (.tuple #[]) ∧ w' = w := Any.slices_Sort_int_none Try.lays189 p cap w
def Try.laysSlF6_f55_ren : Go.Shelf.Ren := ⟨fun | 6 => 55 | 15 => 50 | 14 => 77 | 28 => 73 | 29 => 74 | 20 => 85 | 21 => 86 | 22 => 87 | 23 => 88 | 24 => 89 | 25 => 90 | 26 => 91 | 27 => 92 | 46 => 94 | 47 => 81 | 48 => 82 | 49 => 95 | 50 => 96 | 57 => 97 | n => n, fun | 22 => 35 | 24 => 3 | 25 => 92 | 3 => 3 | 39 => 85 | 0 => 0 | 53 => 105 | 55 => 93 | 4 => 4 | 46 => 97 | 45 => 96 | 50 => 102 | 5 => 5 | 9 => 9 | 66 => 110 | 70 => 114 | 76 => 121 | 77 => 122 | n => n, fun | n => n⟩
theorem Try.laysSlF6_f55 : Go.Proofs.SlLaysF.n6 Try.prog Try.laysSlF6_f55_ren := {
  mixed := by kernel_rfl
  f6 := ⟨Try.f55.name, by decide, Try.func55.trans (congrArg some (by kernel_rfl))⟩
  f14 := ⟨Try.f77.name, by decide, Try.func77.trans (congrArg some (by kernel_rfl))⟩
  f15 := Try.func50.trans (congrArg some (by kernel_rfl))
  f20 := ⟨Try.f85.name, by decide, Try.func85.trans (congrArg some (by kernel_rfl))⟩
  f21 := ⟨Try.f86.name, by decide, Try.func86.trans (congrArg some (by kernel_rfl))⟩
  f22 := ⟨Try.f87.name, by decide, Try.func87.trans (congrArg some (by kernel_rfl))⟩
  f23 := ⟨Try.f88.name, by decide, Try.func88.trans (congrArg some (by kernel_rfl))⟩
  f24 := ⟨Try.f89.name, by decide, Try.func89.trans (congrArg some (by kernel_rfl))⟩
  f25 := ⟨Try.f90.name, by decide, Try.func90.trans (congrArg some (by kernel_rfl))⟩
  f26 := ⟨Try.f91.name, by decide, Try.func91.trans (congrArg some (by kernel_rfl))⟩
  f27 := ⟨Try.f92.name, by decide, Try.func92.trans (congrArg some (by kernel_rfl))⟩
  f28 := Try.func73.trans (congrArg some (by kernel_rfl))
  f29 := Try.func74.trans (congrArg some (by kernel_rfl))
  f46 := ⟨Try.f94.name, by decide, Try.func94.trans (congrArg some (by kernel_rfl))⟩
  f47 := Try.func81.trans (congrArg some (by kernel_rfl))
  f48 := Try.func82.trans (congrArg some (by kernel_rfl))
  f49 := ⟨Try.f95.name, by decide, Try.func95.trans (congrArg some (by kernel_rfl))⟩
  f50 := ⟨Try.f96.name, by decide, Try.func96.trans (congrArg some (by kernel_rfl))⟩
  f57 := ⟨Try.f97.name, by decide, Try.func97.trans (congrArg some (by kernel_rfl))⟩
  t0 := Try.underlying0
  a0 := Try.isAgg0
  z0 := Try.sizeOf0
  v0 := Try.zeroValue0
  t3 := Try.underlying3
  a3 := Try.isAgg3
  z3 := Try.sizeOf3
  v3 := Try.zeroValue3
  t4 := Try.underlying4
  a4 := Try.isAgg4
  z4 := Try.sizeOf4
  v4 := Try.zeroValue4
  t5 := Try.underlying5
  a5 := Try.isAgg5
  z5 := Try.sizeOf5
  v5 := Try.zeroValue5
  t9 := Try.underlying9
  a9 := Try.isAgg9
  z9 := Try.sizeOf9
  v9 := Try.zeroValue9
  t22 := Try.underlying35
  a22 := Try.isAgg35
  z22 := Try.sizeOf35
  v22 := Try.zeroValue35
  a24 := Try.isAgg3
  z24 := Try.sizeOf3
  t25 := Try.underlying92
  a25 := Try.isAgg92
  z25 := Try.sizeOf92
  v25 := Try.zeroValue92
  t39 := Try.underlying85
  a39 := Try.isAgg85
  z39 := Try.sizeOf85
  v39 := Try.zeroValue85
  t45 := Try.underlying96
  a45 := Try.isAgg96
  z45 := Try.sizeOf96
  v45 := Try.zeroValue96
  t46 := Try.underlying97
  a46 := Try.isAgg97
  z46 := Try.sizeOf97
  v46 := Try.zeroValue97
  t50 := Try.underlying102
  a50 := Try.isAgg102
  z50 := Try.sizeOf102
  v50 := Try.zeroValue102
  t53 := Try.underlying105
  a53 := Try.isAgg105
  z53 := Try.sizeOf105
  v53 := Try.zeroValue105
  t55 := Try.underlying93
  a55 := Try.isAgg93
  z55 := Try.sizeOf93
  v55 := Try.zeroValue93
  t66 := Try.underlying110
  a66 := Try.isAgg110
  z66 := Try.sizeOf110
  v66 := Try.zeroValue110
  t70 := Try.underlying114
  a70 := Try.isAgg114
  z70 := Try.sizeOf114
  v70 := Try.zeroValue114
  t76 := Try.underlying121
  a76 := Try.isAgg121
  z76 := Try.sizeOf121
  v76 := Try.zeroValue121
  t77 := Try.underlying122
  a77 := Try.isAgg122
  z77 := Try.sizeOf122
  v77 := Try.zeroValue122 }
open Go.RowKit Go.Lib Go.Sort in
theorem Try.slices_SortFunc_total {α : Type} [Inhabited α] (enc : α → Value) (h1 : OneCell enc) (cf : α → α → Int) (hO : SWO (ltOf cf)) (g : Nat) (cb : Array Value) (blk off cap : Nat) (d : Array α) (w : World) (eg : ∀ args w, (callFunc g args).run Try.prog w = .ok (.enter g args) w) (hcmp : CmpLays1 Try.prog g cb enc cf blk off d.size w) (hH : Holds enc w blk off d) (hblk : blk < w.heap.size) (hsz : d.size < 4611686018427387904) (hT : ∀ x y, (ltOf cf) x y = false → (ltOf cf) y x = false → x = y) :
    Calls Try.prog 55 #[.slice (some ⟨blk, off, none⟩) d.size cap, .func (.func g) #[] cb] w fun e w' =>
      e = .returned (.tuple #[]) ∧ ∃ n os, w' = sortWorld enc w blk off n (d.toList.mergeSort fun x y => !(ltOf cf) y x).toArray os := Any.slices_SortFunc_total Try.laysSlF6_f55 enc h1 cf hO g cb blk off cap d w eg hcmp hH hblk hsz hT
end Go.Proofs

namespace Go.Proofs.Pen
open Go Go.Proofs Go.RowKit
theorem sorts_fn : SortsFn Try.prog 55 := fun _ _ cf hO g cb blk off cap d w eg hcmp hH hblk hsz hT => Try.slices_SortFunc_total _ (fun _ => rfl) cf hO g cb blk off cap d w eg hcmp hH hblk hsz hT
theorem sorts_int : SortsInt Try.prog 38 := ⟨fun blk off cap zs w hH hblk hsz => Try.slices_Sort_int blk off cap zs w hH hblk hsz, fun p cap w => Try.slices_Sort_int_none p cap w⟩
end Go.Proofs.Pen

namespace Go.Proofs.Pen
open Go Go.Proofs
abbrev TI : Ty := (.int .i64)
abbrev TV : Ty := (.st (.pair .flt (.pair .flt .flt)))
abbrev THit : Ty := (.st (.pair (.int .i64) (.pair .flt (.pair .flt .flt))))
abbrev TBox : Ty := (.st (.pair (.st (.pair .flt (.pair .flt .flt))) (.st (.pair .flt (.pair .flt .flt)))))
abbrev TTri : Ty := (.st (.pair (.st (.pair .flt (.pair .flt .flt))) (.pair (.st (.pair .flt (.pair .flt .flt))) (.st (.pair .flt (.pair .flt .flt))))))
abbrev TNode : Ty := (.st (.pair (.st (.pair (.st (.pair .flt (.pair .flt .flt))) (.st (.pair .flt (.pair .flt .flt))))) (.pair (.int .i64) (.pair (.int .i64) (.pair (.int .i64) (.int .i64))))))
abbrev TTree : Ty := (.st (.pair (.sl (.st (.pair (.st (.pair (.st (.pair .flt (.pair .flt .flt))) (.st (.pair .flt (.pair .flt .flt))))) (.pair (.int .i64) (.pair (.int .i64) (.pair (.int .i64) (.int .i64))))))) (.sl (.int .i64))))
abbrev TBld : Ty := (.st (.pair (.sl (.st (.pair (.st (.pair .flt (.pair .flt .flt))) (.st (.pair .flt (.pair .flt .flt)))))) (.pair (.sl (.st (.pair .flt (.pair .flt .flt)))) (.pair .bool (.ptr (.st (.pair (.sl (.st (.pair (.st (.pair (.st (.pair .flt (.pair .flt .flt))) (.st (.pair .flt (.pair .flt .flt))))) (.pair (.int .i64) (.pair (.int .i64) (.pair (.int .i64) (.int .i64))))))) (.sl (.int .i64)))))))))
theorem mixed : Try.prog.follows .mixedOrders = true := by kernel_rfl
theorem xFB : ExOK Try.prog 60 fromBitsAV := fromBits_ok (by intros; kernel_rfl)
noncomputable def Xs : Nat → List AV → T AV := ext noQ 60 fromBitsAV
theorem Xok : QuietOK Try.prog Xs := quiet_extE (quiet_none _) xFB
noncomputable def tb : DTab := (tbExt (tbExt tbNone 25 (cloneD TI 8)) 26 (cloneD TNode 80))
theorem tbOk : TBOK Try.prog tb := (tb_ext (tb_ext (tb_none _) (clone_deep (F := { quiet := noQ, deep := noDeep }) (D := D0) (S := noS) mixed (quiet_none _) (deep_none _) Try.func25 (by kernel_rfl) (fun c _ => sok_none _ 0 c) (by kernel_rfl) (t := TI) (bt := 8) (by kernel_rfl) (fun v => by kernel_rfl) (fun xs => by kernel_rfl))) (clone_deep (F := { quiet := noQ, deep := noDeep }) (D := D0) (S := noS) mixed (quiet_none _) (deep_none _) Try.func26 (by kernel_rfl) (fun c _ => sok_none _ 0 c) (by kernel_rfl) (t := TNode) (bt := 80) (by kernel_rfl) (fun v => by kernel_rfl) (fun xs => by kernel_rfl)))
end Go.Proofs.Pen

namespace Go.Proofs.Pen
open Go Go.Proofs
noncomputable def math_Inf.t (x : Int) : T ((Option Nat)) := T.ite (decide (x ≥ (0 : Int))) (T.ret (some (Int.toNat (9218868437227405312 : Int)))) (T.ret (some (Int.toNat (18442240474082181120 : Int))))
noncomputable def math_Inf (x : Int) : Option ((Option Nat)) := (math_Inf.t x).run
noncomputable def math_Inf.q : List AV → T AV := entry [TI] (outR [.flt]) fun x => .opt (math_Inf x) .ret
theorem math_Inf.ok : FnOK Try.prog 43 math_Inf.q :=
  entry_call (ps := [TI]) (rs := [.flt]) (F := ({ quiet := Xs, deep := noDeep } : Fns)) (D := D0) (S := tabS []) (t := math_Inf.t) mixed Xok (deep_none _) Try.func43 (by kernel_rfl) (sok_fn trivial) (by kernel_rfl) (fun x => by kernel_rfl)
end Go.Proofs.Pen

namespace Go.Proofs.Pen
open Go Go.Proofs
noncomputable def box_Empty.t (_ : Unit) : T (((Option Nat × Option Nat × Option Nat) × Option Nat × Option Nat × Option Nat)) := T.opt (math_Inf (1 : Int)) fun y => T.ret ((y, y, y), Option.map (Op.negFloat FloatKind.f64) y, Option.map (Op.negFloat FloatKind.f64) y, Option.map (Op.negFloat FloatKind.f64) y)
noncomputable def box_Empty (x : Unit) : Option (((Option Nat × Option Nat × Option Nat) × Option Nat × Option Nat × Option Nat)) := (box_Empty.t x).run
noncomputable def box_Empty.q : List AV → T AV := entry [] (outR [TBox]) fun x => .opt (box_Empty x) .ret
theorem box_Empty.ok : FnOK Try.prog 34 box_Empty.q :=
  entry_call (ps := []) (rs := [TBox]) (F := ({ quiet := (ext Xs 43 math_Inf.q), deep := noDeep } : Fns)) (D := D0) (S := tabS []) (t := box_Empty.t) mixed (quiet_ext Xok math_Inf.ok) (deep_none _) Try.func34 (by kernel_rfl) (sok_fn trivial) (by kernel_rfl) (fun x => by kernel_rfl)
end Go.Proofs.Pen

namespace Go.Proofs.Pen
open Go Go.Proofs
noncomputable def box_less.t (x : (Option Nat) × (Option Nat)) : T ((Option Nat)) := T.ite (ford x.2 x.1 == some Ordering.lt) (T.ret x.2) (T.ret x.1)
noncomputable def box_less (x : (Option Nat) × (Option Nat)) : Option ((Option Nat)) := (box_less.t x).run
noncomputable def box_less.q : List AV → T AV := entry [.flt, .flt] (outR [.flt]) fun x => .opt (box_less x) .ret
theorem box_less.ok : FnOK Try.prog 61 box_less.q :=
  entry_call (ps := [.flt, .flt]) (rs := [.flt]) (F := ({ quiet := Xs, deep := noDeep } : Fns)) (D := D0) (S := tabS []) (t := box_less.t) mixed Xok (deep_none _) Try.func61 (by kernel_rfl) (sok_fn trivial) (by kernel_rfl) (fun x => by kernel_rfl)
end Go.Proofs.Pen

namespace Go.Proofs.Pen
open Go Go.Proofs
noncomputable def box_more.t (x : (Option Nat) × (Option Nat)) : T ((Option Nat)) := T.ite (ford x.2 x.1 == some Ordering.gt) (T.ret x.2) (T.ret x.1)
noncomputable def box_more (x : (Option Nat) × (Option Nat)) : Option ((Option Nat)) := (box_more.t x).run
noncomputable def box_more.q : List AV → T AV := entry [.flt, .flt] (outR [.flt]) fun x => .opt (box_more x) .ret
theorem box_more.ok : FnOK Try.prog 62 box_more.q :=
  entry_call (ps := [.flt, .flt]) (rs := [.flt]) (F := ({ quiet := Xs, deep := noDeep } : Fns)) (D := D0) (S := tabS []) (t := box_more.t) mixed Xok (deep_none _) Try.func62 (by kernel_rfl) (sok_fn trivial) (by kernel_rfl) (fun x => by kernel_rfl)
end Go.Proofs.Pen

namespace Go.Proofs.Pen
open Go Go.Proofs
noncomputable def box_Join.t (x : ((Option Nat × Option Nat × Option Nat) × Option Nat × Option Nat × Option Nat) × ((Option Nat × Option Nat × Option Nat) × Option Nat × Option Nat × Option Nat)) : T (((Option Nat × Option Nat × Option Nat) × Option Nat × Option Nat × Option Nat)) := T.opt (box_less (x.1.1.1, x.2.1.1)) fun y => T.opt (box_less (x.1.1.2.1, x.2.1.2.1)) fun y_1 => T.opt (box_less (x.1.1.2.2, x.2.1.2.2)) fun y_2 => T.opt (box_more (x.1.2.1, x.2.2.1)) fun y_3 => T.opt (box_more (x.1.2.2.1, x.2.2.2.1)) fun y_4 => T.opt (box_more (x.1.2.2.2, x.2.2.2.2)) fun y_5 => T.ret ((y, y_1, y_2), y_3, y_4, y_5)
noncomputable def box_Join (x : ((Option Nat × Option Nat × Option Nat) × Option Nat × Option Nat × Option Nat) × ((Option Nat × Option Nat × Option Nat) × Option Nat × Option Nat × Option Nat)) : Option (((Option Nat × Option Nat × Option Nat) × Option Nat × Option Nat × Option Nat)) := (box_Join.t x).run
noncomputable def box_Join.q : List AV → T AV := entry [TBox, TBox] (outR [TBox]) fun x => .opt (box_Join x) .ret
theorem box_Join.ok : FnOK Try.prog 45 box_Join.q :=
  entry_call (ps := [TBox, TBox]) (rs := [TBox]) (F := ({ quiet := (ext (ext Xs 61 box_less.q) 62 box_more.q), deep := noDeep } : Fns)) (D := D0) (S := tabS []) (t := box_Join.t) mixed (quiet_ext (quiet_ext Xok box_less.ok) box_more.ok) (deep_none _) Try.func45 (by kernel_rfl) (sok_fn trivial) (by kernel_rfl) (fun x => by kernel_rfl)
end Go.Proofs.Pen

namespace Go.Proofs.Pen
open Go Go.Proofs
def bvh_builder_around.L0 : List (Nat × Lay) := [(0, .val (.ptr TBld)), (4, .box TBox), (5, .box TBox), (9, .val (.sl TI)), (10, .val TI), (11, .val TI)]
noncomputable def bvh_builder_around.t0 (x : ((List ((Option Nat × Option Nat × Option Nat) × Option Nat × Option Nat × Option Nat)) × (List (Option Nat × Option Nat × Option Nat)) × Bool × (List (((Option Nat × Option Nat × Option Nat) × Option Nat × Option Nat × Option Nat) × Int × Int × Int × Int)) × List (Int)) × ((Option Nat × Option Nat × Option Nat) × Option Nat × Option Nat × Option Nat) × ((Option Nat × Option Nat × Option Nat) × Option Nat × Option Nat × Option Nat) × (List (Int)) × Int × Int × Unit) : T (Ex × ((List ((Option Nat × Option Nat × Option Nat) × Option Nat × Option Nat × Option Nat)) × (List (Option Nat × Option Nat × Option Nat)) × Bool × (List (((Option Nat × Option Nat × Option Nat) × Option Nat × Option Nat × Option Nat) × Int × Int × Int × Int)) × List (Int)) × ((Option Nat × Option Nat × Option Nat) × Option Nat × Option Nat × Option Nat) × ((Option Nat × Option Nat × Option Nat) × Option Nat × Option Nat × Option Nat) × (List (Int)) × Int × Int × Unit) := T.ite (decide (x.2.2.2.2.2.1 < x.2.2.2.2.1)) (T.opt (lget x.2.2.2.1 x.2.2.2.2.2.1) fun y => T.opt (lget x.1.1 y) fun y => T.opt (box_Join (x.2.2.1, y)) fun y => T.ret (Ex.normal, x.1, x.2.1, y, x.2.2.2.1, x.2.2.2.2.1, W (x.2.2.2.2.2.1 + (1 : Int)), ())) (T.ret (Ex.exit (0 : Nat), x.1, x.2.1, x.2.2.1, x.2.2.2.1, x.2.2.2.2.1, x.2.2.2.2.2.1, ()))
noncomputable def bvh_builder_around.l0 (x : ((List ((Option Nat × Option Nat × Option Nat) × Option Nat × Option Nat × Option Nat)) × (List (Option Nat × Option Nat × Option Nat)) × Bool × (List (((Option Nat × Option Nat × Option Nat) × Option Nat × Option Nat × Option Nat) × Int × Int × Int × Int)) × List (Int)) × ((Option Nat × Option Nat × Option Nat) × Option Nat × Option Nat × Option Nat) × ((Option Nat × Option Nat × Option Nat) × Option Nat × Option Nat × Option Nat) × (List (Int)) × Int × Int × Unit) : Option (Ex × ((List ((Option Nat × Option Nat × Option Nat) × Option Nat × Option Nat × Option Nat)) × (List (Option Nat × Option Nat × Option Nat)) × Bool × (List (((Option Nat × Option Nat × Option Nat) × Option Nat × Option Nat × Option Nat) × Int × Int × Int × Int)) × List (Int)) × ((Option Nat × Option Nat × Option Nat) × Option Nat × Option Nat × Option Nat) × ((Option Nat × Option Nat × Option Nat) × Option Nat × Option Nat × Option Nat) × (List (Int)) × Int × Int × Unit) := (iterT bvh_builder_around.t0 rounds x).run
theorem bvh_builder_around.k0 : bodies 0 (lp Try.f37 []) = [.loop (loopIn 0 (lp Try.f37 []))] ∧ WP Try.prog 0 (.block 0 (.loop (loopIn 0 (lp Try.f37 [])))) (loopS bvh_builder_around.L0 26 0 [.exit 0] bvh_builder_around.l0) :=
  loop_tree (L := bvh_builder_around.L0) (F := ({ quiet := (ext (ext Xs 34 box_Empty.q) 45 box_Join.q), deep := noDeep } : Fns)) (D := D0) (tab := []) (t := bvh_builder_around.t0) mixed (quiet_ext (quiet_ext Xok box_Empty.ok) box_Join.ok) (deep_none _) (fun _ => rfl) (by kernel_rfl) (by kernel_rfl) trivial (fun x => by kernel_rfl)
noncomputable def bvh_builder_around.t (x : ((List ((Option Nat × Option Nat × Option Nat) × Option Nat × Option Nat × Option Nat)) × (List (Option Nat × Option Nat × Option Nat)) × Bool × (List (((Option Nat × Option Nat × Option Nat) × Option Nat × Option Nat × Option Nat) × Int × Int × Int × Int)) × List (Int)) × (List (Int))) : T (((Option Nat × Option Nat × Option Nat) × Option Nat × Option Nat × Option Nat)) := T.opt (box_Empty ()) fun y => T.opt (bvh_builder_around.l0 (x.1, ((some (0 : Nat), some (0 : Nat), some (0 : Nat)), some (0 : Nat), some (0 : Nat), some (0 : Nat)), y, x.2, (↑(List.length x.2) : Int), (0 : Int), ())) fun y => T.ite (exEq y.1 (Ex.exit (0 : Nat))) (T.ret y.2.2.2.1) T.fail
noncomputable def bvh_builder_around (x : ((List ((Option Nat × Option Nat × Option Nat) × Option Nat × Option Nat × Option Nat)) × (List (Option Nat × Option Nat × Option Nat)) × Bool × (List (((Option Nat × Option Nat × Option Nat) × Option Nat × Option Nat × Option Nat) × Int × Int × Int × Int)) × List (Int)) × (List (Int))) : Option (((Option Nat × Option Nat × Option Nat) × Option Nat × Option Nat × Option Nat)) := (bvh_builder_around.t x).run
noncomputable def bvh_builder_around.q : List AV → T AV := entry [(.ptr TBld), (.sl TI)] (outR [TBox]) fun x => .opt (bvh_builder_around x) .ret
theorem bvh_builder_around.ok : FnOK Try.prog 37 bvh_builder_around.q :=
  entry_call (ps := [(.ptr TBld), (.sl TI)]) (rs := [TBox]) (F := ({ quiet := (ext (ext Xs 34 box_Empty.q) 45 box_Join.q), deep := noDeep } : Fns)) (D := D0) (S := tabS [(0, loopS bvh_builder_around.L0 26 0 [.exit 0] bvh_builder_around.l0)]) (t := bvh_builder_around.t) mixed (quiet_ext (quiet_ext Xok box_Empty.ok) box_Join.ok) (deep_none _) Try.func37 (by kernel_rfl) (sok_fn ⟨bvh_builder_around.k0, trivial⟩) (by kernel_rfl) (fun x => by kernel_rfl)
end Go.Proofs.Pen

namespace Go.Proofs.Pen
open Go Go.Proofs
noncomputable def box_Grow.t (x : ((Option Nat × Option Nat × Option Nat) × Option Nat × Option Nat × Option Nat) × (Option Nat × Option Nat × Option Nat)) : T (((Option Nat × Option Nat × Option Nat) × Option Nat × Option Nat × Option Nat)) := T.opt (box_Join (x.1, x.2, x.2)) fun y => T.ret y
noncomputable def box_Grow (x : ((Option Nat × Option Nat × Option Nat) × Option Nat × Option Nat × Option Nat) × (Option Nat × Option Nat × Option Nat)) : Option (((Option Nat × Option Nat × Option Nat) × Option Nat × Option Nat × Option Nat)) := (box_Grow.t x).run
noncomputable def box_Grow.q : List AV → T AV := entry [TBox, TV] (outR [TBox]) fun x => .opt (box_Grow x) .ret
theorem box_Grow.ok : FnOK Try.prog 33 box_Grow.q :=
  entry_call (ps := [TBox, TV]) (rs := [TBox]) (F := ({ quiet := (ext Xs 45 box_Join.q), deep := noDeep } : Fns)) (D := D0) (S := tabS []) (t := box_Grow.t) mixed (quiet_ext Xok box_Join.ok) (deep_none _) Try.func33 (by kernel_rfl) (sok_fn trivial) (by kernel_rfl) (fun x => by kernel_rfl)
end Go.Proofs.Pen

namespace Go.Proofs.Pen
open Go Go.Proofs
def bvh_builder_middles.L0 : List (Nat × Lay) := [(0, .val (.ptr TBld)), (4, .box TBox), (5, .box TBox), (9, .val (.sl TI)), (10, .val TI), (11, .val TI)]
noncomputable def bvh_builder_middles.t0 (x : ((List ((Option Nat × Option Nat × Option Nat) × Option Nat × Option Nat × Option Nat)) × (List (Option Nat × Option Nat × Option Nat)) × Bool × (List (((Option Nat × Option Nat × Option Nat) × Option Nat × Option Nat × Option Nat) × Int × Int × Int × Int)) × List (Int)) × ((Option Nat × Option Nat × Option Nat) × Option Nat × Option Nat × Option Nat) × ((Option Nat × Option Nat × Option Nat) × Option Nat × Option Nat × Option Nat) × (List (Int)) × Int × Int × Unit) : T (Ex × ((List ((Option Nat × Option Nat × Option Nat) × Option Nat × Option Nat × Option Nat)) × (List (Option Nat × Option Nat × Option Nat)) × Bool × (List (((Option Nat × Option Nat × Option Nat) × Option Nat × Option Nat × Option Nat) × Int × Int × Int × Int)) × List (Int)) × ((Option Nat × Option Nat × Option Nat) × Option Nat × Option Nat × Option Nat) × ((Option Nat × Option Nat × Option Nat) × Option Nat × Option Nat × Option Nat) × (List (Int)) × Int × Int × Unit) := T.ite (decide (x.2.2.2.2.2.1 < x.2.2.2.2.1)) (T.opt (lget x.2.2.2.1 x.2.2.2.2.2.1) fun y => T.opt (lget x.1.2.1 y) fun y => T.opt (box_Grow (x.2.2.1, y)) fun y => T.ret (Ex.normal, x.1, x.2.1, y, x.2.2.2.1, x.2.2.2.2.1, W (x.2.2.2.2.2.1 + (1 : Int)), ())) (T.ret (Ex.exit (0 : Nat), x.1, x.2.1, x.2.2.1, x.2.2.2.1, x.2.2.2.2.1, x.2.2.2.2.2.1, ()))
noncomputable def bvh_builder_middles.l0 (x : ((List ((Option Nat × Option Nat × Option Nat) × Option Nat × Option Nat × Option Nat)) × (List (Option Nat × Option Nat × Option Nat)) × Bool × (List (((Option Nat × Option Nat × Option Nat) × Option Nat × Option Nat × Option Nat) × Int × Int × Int × Int)) × List (Int)) × ((Option Nat × Option Nat × Option Nat) × Option Nat × Option Nat × Option Nat) × ((Option Nat × Option Nat × Option Nat) × Option Nat × Option Nat × Option Nat) × (List (Int)) × Int × Int × Unit) : Option (Ex × ((List ((Option Nat × Option Nat × Option Nat) × Option Nat × Option Nat × Option Nat)) × (List (Option Nat × Option Nat × Option Nat)) × Bool × (List (((Option Nat × Option Nat × Option Nat) × Option Nat × Option Nat × Option Nat) × Int × Int × Int × Int)) × List (Int)) × ((Option Nat × Option Nat × Option Nat) × Option Nat × Option Nat × Option Nat) × ((Option Nat × Option Nat × Option Nat) × Option Nat × Option Nat × Option Nat) × (List (Int)) × Int × Int × Unit) := (iterT bvh_builder_middles.t0 rounds x).run
theorem bvh_builder_middles.k0 : bodies 0 (lp Try.f39 []) = [.loop (loopIn 0 (lp Try.f39 []))] ∧ WP Try.prog 0 (.block 0 (.loop (loopIn 0 (lp Try.f39 [])))) (loopS bvh_builder_middles.L0 26 0 [.exit 0] bvh_builder_middles.l0) :=
  loop_tree (L := bvh_builder_middles.L0) (F := ({ quiet := (ext (ext Xs 34 box_Empty.q) 33 box_Grow.q), deep := noDeep } : Fns)) (D := D0) (tab := []) (t := bvh_builder_middles.t0) mixed (quiet_ext (quiet_ext Xok box_Empty.ok) box_Grow.ok) (deep_none _) (fun _ => rfl) (by kernel_rfl) (by kernel_rfl) trivial (fun x => by kernel_rfl)
noncomputable def bvh_builder_middles.t (x : ((List ((Option Nat × Option Nat × Option Nat) × Option Nat × Option Nat × Option Nat)) × (List (Option Nat × Option Nat × Option Nat)) × Bool × (List (((Option Nat × Option Nat × Option Nat) × Option Nat × Option Nat × Option Nat) × Int × Int × Int × Int)) × List (Int)) × (List (Int))) : T (((Option Nat × Option Nat × Option Nat) × Option Nat × Option Nat × Option Nat)) := T.opt (box_Empty ()) fun y => T.opt (bvh_builder_middles.l0 (x.1, ((some (0 : Nat), some (0 : Nat), some (0 : Nat)), some (0 : Nat), some (0 : Nat), some (0 : Nat)), y, x.2, (↑(List.length x.2) : Int), (0 : Int), ())) fun y => T.ite (exEq y.1 (Ex.exit (0 : Nat))) (T.ret y.2.2.2.1) T.fail
noncomputable def bvh_builder_middles (x : ((List ((Option Nat × Option Nat × Option Nat) × Option Nat × Option Nat × Option Nat)) × (List (Option Nat × Option Nat × Option Nat)) × Bool × (List (((Option Nat × Option Nat × Option Nat) × Option Nat × Option Nat × Option Nat) × Int × Int × Int × Int)) × List (Int)) × (List (Int))) : Option (((Option Nat × Option Nat × Option Nat) × Option Nat × Option Nat × Option Nat)) := (bvh_builder_middles.t x).run
noncomputable def bvh_builder_middles.q : List AV → T AV := entry [(.ptr TBld), (.sl TI)] (outR [TBox]) fun x => .opt (bvh_builder_middles x) .ret
theorem bvh_builder_middles.ok : FnOK Try.prog 39 bvh_builder_middles.q :=
  entry_call (ps := [(.ptr TBld), (.sl TI)]) (rs := [TBox]) (F := ({ quiet := (ext (ext Xs 34 box_Empty.q) 33 box_Grow.q), deep := noDeep } : Fns)) (D := D0) (S := tabS [(0, loopS bvh_builder_middles.L0 26 0 [.exit 0] bvh_builder_middles.l0)]) (t := bvh_builder_middles.t) mixed (quiet_ext (quiet_ext Xok box_Empty.ok) box_Grow.ok) (deep_none _) Try.func39 (by kernel_rfl) (sok_fn ⟨bvh_builder_middles.k0, trivial⟩) (by kernel_rfl) (fun x => by kernel_rfl)
end Go.Proofs.Pen

namespace Go.Proofs.Pen
open Go Go.Proofs
noncomputable def vec_Add_1.t (x : (Option Nat) × (Option Nat)) : T ((Option Nat)) := T.ret (fop BinOp.add x.1 x.2)
noncomputable def vec_Add_1.q : List AV → T AV := entry [.flt, .flt] (outR [.flt]) vec_Add_1.t
theorem vec_Add_1.ok : FnOK Try.prog 48 vec_Add_1.q :=
  entry_in (ps := [.flt, .flt]) (rs := [.flt]) (F := ({ quiet := Xs, deep := noDeep } : Fns)) (D := D0) (S := tabS []) (t := vec_Add_1.t) mixed Xok (deep_none _) Try.func48 (by kernel_rfl) (sok_fn trivial) (by kernel_rfl) (fun x => by kernel_rfl)
end Go.Proofs.Pen

namespace Go.Proofs.Pen
open Go Go.Proofs
noncomputable def vec_Sub_1.t (x : (Option Nat) × (Option Nat)) : T ((Option Nat)) := T.ret (fop BinOp.sub x.1 x.2)
noncomputable def vec_Sub_1.q : List AV → T AV := entry [.flt, .flt] (outR [.flt]) vec_Sub_1.t
theorem vec_Sub_1.ok : FnOK Try.prog 75 vec_Sub_1.q :=
  entry_in (ps := [.flt, .flt]) (rs := [.flt]) (F := ({ quiet := Xs, deep := noDeep } : Fns)) (D := D0) (S := tabS []) (t := vec_Sub_1.t) mixed Xok (deep_none _) Try.func75 (by kernel_rfl) (sok_fn trivial) (by kernel_rfl) (fun x => by kernel_rfl)
end Go.Proofs.Pen

namespace Go.Proofs.Pen
open Go Go.Proofs
noncomputable def vec_Mul_1.t (x : (Option Nat) × (Option Nat)) : T ((Option Nat)) := T.ret (fop BinOp.mul x.1 x.2)
noncomputable def vec_Mul_1.q : List AV → T AV := entry [.flt, .flt] (outR [.flt]) vec_Mul_1.t
theorem vec_Mul_1.ok : FnOK Try.prog 63 vec_Mul_1.q :=
  entry_in (ps := [.flt, .flt]) (rs := [.flt]) (F := ({ quiet := Xs, deep := noDeep } : Fns)) (D := D0) (S := tabS []) (t := vec_Mul_1.t) mixed Xok (deep_none _) Try.func63 (by kernel_rfl) (sok_fn trivial) (by kernel_rfl) (fun x => by kernel_rfl)
end Go.Proofs.Pen

namespace Go.Proofs.Pen
open Go Go.Proofs
noncomputable def eachSub.t (x : (Option Nat × Option Nat × Option Nat) × (Option Nat × Option Nat × Option Nat) × Unit) : T ((Option Nat × Option Nat × Option Nat)) := T.ret (fop BinOp.sub x.1.1 x.2.1.1, fop BinOp.sub x.1.2.1 x.2.1.2.1, fop BinOp.sub x.1.2.2 x.2.1.2.2)
noncomputable def eachSub.q : List AV → T AV := entry [TV, TV, (.clo 75 .unit)] (outR [TV]) eachSub.t
theorem eachSub.ok : FnOK Try.prog 47 eachSub.q :=
  entry_in (ps := [TV, TV, (.clo 75 .unit)]) (rs := [TV]) (F := ({ quiet := (ext (ext (ext Xs 48 vec_Add_1.q) 75 vec_Sub_1.q) 63 vec_Mul_1.q), deep := noDeep } : Fns)) (D := D0) (S := tabS []) (t := eachSub.t) mixed (quiet_ext (quiet_ext (quiet_ext Xok vec_Add_1.ok) vec_Sub_1.ok) vec_Mul_1.ok) (deep_none _) Try.func47 (by kernel_rfl) (sok_fn trivial) (by kernel_rfl) (fun x => by kernel_rfl)
end Go.Proofs.Pen

namespace Go.Proofs.Pen
open Go Go.Proofs
noncomputable def vec_Sub.t (x : (Option Nat × Option Nat × Option Nat) × (Option Nat × Option Nat × Option Nat)) : T ((Option Nat × Option Nat × Option Nat)) := T.ret (fop BinOp.sub x.1.1 x.2.1, fop BinOp.sub x.1.2.1 x.2.2.1, fop BinOp.sub x.1.2.2 x.2.2.2)
noncomputable def vec_Sub (x : (Option Nat × Option Nat × Option Nat) × (Option Nat × Option Nat × Option Nat)) : Option ((Option Nat × Option Nat × Option Nat)) := (vec_Sub.t x).run
noncomputable def vec_Sub.q : List AV → T AV := entry [TV, TV] (outR [TV]) fun x => .opt (vec_Sub x) .ret
theorem vec_Sub.ok : FnOK Try.prog 51 vec_Sub.q :=
  entry_call (ps := [TV, TV]) (rs := [TV]) (F := ({ quiet := (ext Xs 47 eachSub.q), deep := noDeep } : Fns)) (D := D0) (S := tabS []) (t := vec_Sub.t) mixed (quiet_ext Xok eachSub.ok) (deep_none _) Try.func51 (by kernel_rfl) (sok_fn trivial) (by kernel_rfl) (fun x => by kernel_rfl)
end Go.Proofs.Pen

namespace Go.Proofs.Pen
open Go Go.Proofs
noncomputable def vec_Part.t (x : (Option Nat × Option Nat × Option Nat) × Int) : T ((Option Nat)) := T.ite (x.2 == (0 : Int)) (T.ret x.1.1) (T.ite (x.2 == (1 : Int)) (T.ret x.1.2.1) (T.ret x.1.2.2))
noncomputable def vec_Part (x : (Option Nat × Option Nat × Option Nat) × Int) : Option ((Option Nat)) := (vec_Part.t x).run
noncomputable def vec_Part.q : List AV → T AV := entry [TV, TI] (outR [.flt]) fun x => .opt (vec_Part x) .ret
theorem vec_Part.ok : FnOK Try.prog 32 vec_Part.q :=
  entry_call (ps := [TV, TI]) (rs := [.flt]) (F := ({ quiet := Xs, deep := noDeep } : Fns)) (D := D0) (S := tabS []) (t := vec_Part.t) mixed Xok (deep_none _) Try.func32 (by kernel_rfl) (sok_fn trivial) (by kernel_rfl) (fun x => by kernel_rfl)
end Go.Proofs.Pen

namespace Go.Proofs.Pen
open Go Go.Proofs
def box_Longest.L0 : List (Nat × Lay) := [(3, .box TV), (4, .val TI), (14, .val TI)]
noncomputable def box_Longest.t0 (x : (Option Nat × Option Nat × Option Nat) × Int × Int × Unit) : T (Ex × (Option Nat × Option Nat × Option Nat) × Int × Int × Unit) := T.ite (decide (x.2.2.1 < (3 : Int))) (T.opt (vec_Part (x.1, x.2.2.1)) fun y => T.opt (vec_Part (x.1, x.2.1)) fun y_1 => T.ite (ford y y_1 == some Ordering.gt) (T.ret (Ex.normal, x.1, x.2.2.1, W (x.2.2.1 + (1 : Int)), ())) (T.ret (Ex.normal, x.1, x.2.1, W (x.2.2.1 + (1 : Int)), ()))) (T.ret (Ex.exit (0 : Nat), x.1, x.2.1, x.2.2.1, ()))
noncomputable def box_Longest.l0 (x : (Option Nat × Option Nat × Option Nat) × Int × Int × Unit) : Option (Ex × (Option Nat × Option Nat × Option Nat) × Int × Int × Unit) := (iterT box_Longest.t0 rounds x).run
theorem box_Longest.k0 : bodies 0 (lp Try.f40 []) = [.loop (loopIn 0 (lp Try.f40 []))] ∧ WP Try.prog 0 (.block 0 (.loop (loopIn 0 (lp Try.f40 [])))) (loopS box_Longest.L0 27 0 [.exit 0] box_Longest.l0) :=
  loop_tree (L := box_Longest.L0) (F := ({ quiet := (ext (ext (ext (ext Xs 34 box_Empty.q) 51 vec_Sub.q) 32 vec_Part.q) 75 vec_Sub_1.q), deep := noDeep } : Fns)) (D := D0) (tab := []) (t := box_Longest.t0) mixed (quiet_ext (quiet_ext (quiet_ext (quiet_ext Xok box_Empty.ok) vec_Sub.ok) vec_Part.ok) vec_Sub_1.ok) (deep_none _) (fun _ => rfl) (by kernel_rfl) (by kernel_rfl) trivial (fun x => by kernel_rfl)
noncomputable def box_Longest.t (x : ((Option Nat × Option Nat × Option Nat) × Option Nat × Option Nat × Option Nat)) : T (Int) := T.opt (box_Empty ()) fun y => T.ite (ford x.1.1 y.1.1 == some Ordering.eq && (ford x.1.2.1 y.1.2.1 == some Ordering.eq && ford x.1.2.2 y.1.2.2 == some Ordering.eq) && (ford x.2.1 y.2.1 == some Ordering.eq && (ford x.2.2.1 y.2.2.1 == some Ordering.eq && ford x.2.2.2 y.2.2.2 == some Ordering.eq))) (T.ret (0 : Int)) (T.opt (vec_Sub (x.2, x.1)) fun y => T.opt (box_Longest.l0 (y, (0 : Int), (0 : Int), ())) fun y => T.ite (exEq y.1 (Ex.exit (0 : Nat))) (T.ret y.2.2.1) T.fail)
noncomputable def box_Longest (x : ((Option Nat × Option Nat × Option Nat) × Option Nat × Option Nat × Option Nat)) : Option (Int) := (box_Longest.t x).run
noncomputable def box_Longest.q : List AV → T AV := entry [TBox] (outR [TI]) fun x => .opt (box_Longest x) .ret
theorem box_Longest.ok : FnOK Try.prog 40 box_Longest.q :=
  entry_call (ps := [TBox]) (rs := [TI]) (F := ({ quiet := (ext (ext (ext (ext Xs 34 box_Empty.q) 51 vec_Sub.q) 32 vec_Part.q) 75 vec_Sub_1.q), deep := noDeep } : Fns)) (D := D0) (S := tabS [(0, loopS box_Longest.L0 27 0 [.exit 0] box_Longest.l0)]) (t := box_Longest.t) mixed (quiet_ext (quiet_ext (quiet_ext (quiet_ext Xok box_Empty.ok) vec_Sub.ok) vec_Part.ok) vec_Sub_1.ok) (deep_none _) Try.func40 (by kernel_rfl) (sok_fn ⟨box_Longest.k0, trivial⟩) (by kernel_rfl) (fun x => by kernel_rfl)
end Go.Proofs.Pen

namespace Go.Proofs.Pen
open Go Go.Proofs
noncomputable def bvh_builder_bin.t (x : ((List ((Option Nat × Option Nat × Option Nat) × Option Nat × Option Nat × Option Nat)) × (List (Option Nat × Option Nat × Option Nat)) × Bool × (List (((Option Nat × Option Nat × Option Nat) × Option Nat × Option Nat × Option Nat) × Int × Int × Int × Int)) × List (Int)) × Int × Int × ((Option Nat × Option Nat × Option Nat) × Option Nat × Option Nat × Option Nat)) : T (Int) := T.opt (vec_Part (x.2.2.2.1, x.2.2.1)) fun y => T.opt (vec_Part (x.2.2.2.2, x.2.2.1)) fun y_1 => T.opt (lget x.1.2.1 x.2.1) fun y_2 => T.opt (vec_Part (y_2, x.2.2.1)) fun y_3 => T.opt (f2i IntKind.i64 (fop BinOp.mul (some (4620693217682128896 : Nat)) (fop BinOp.quo (fop BinOp.sub y_3 y) (fop BinOp.sub y_1 y)))) fun y => T.ret (if (7 : Int) < y then (7 : Int) else y)
noncomputable def bvh_builder_bin (x : ((List ((Option Nat × Option Nat × Option Nat) × Option Nat × Option Nat × Option Nat)) × (List (Option Nat × Option Nat × Option Nat)) × Bool × (List (((Option Nat × Option Nat × Option Nat) × Option Nat × Option Nat × Option Nat) × Int × Int × Int × Int)) × List (Int)) × Int × Int × ((Option Nat × Option Nat × Option Nat) × Option Nat × Option Nat × Option Nat)) : Option (Int) := (bvh_builder_bin.t x).run
noncomputable def bvh_builder_bin.q : List AV → T AV := entry [(.ptr TBld), TI, TI, TBox] (outR [TI]) fun x => .opt (bvh_builder_bin x) .ret
theorem bvh_builder_bin.ok : FnOK Try.prog 52 bvh_builder_bin.q :=
  entry_call (ps := [(.ptr TBld), TI, TI, TBox]) (rs := [TI]) (F := ({ quiet := (ext Xs 32 vec_Part.q), deep := noDeep } : Fns)) (D := D0) (S := tabS []) (t := bvh_builder_bin.t) mixed (quiet_ext Xok vec_Part.ok) (deep_none _) Try.func52 (by kernel_rfl) (sok_fn trivial) (by kernel_rfl) (fun x => by kernel_rfl)
end Go.Proofs.Pen

namespace Go.Proofs.Pen
open Go Go.Proofs
noncomputable def box_Half.t (x : ((Option Nat × Option Nat × Option Nat) × Option Nat × Option Nat × Option Nat)) : T ((Option Nat)) := T.opt (vec_Sub (x.2, x.1)) fun y => T.ret (fop BinOp.add (fop BinOp.add (fop BinOp.mul y.1 y.2.1) (fop BinOp.mul y.2.1 y.2.2)) (fop BinOp.mul y.2.2 y.1))
noncomputable def box_Half (x : ((Option Nat × Option Nat × Option Nat) × Option Nat × Option Nat × Option Nat)) : Option ((Option Nat)) := (box_Half.t x).run
noncomputable def box_Half.q : List AV → T AV := entry [TBox] (outR [.flt]) fun x => .opt (box_Half x) .ret
theorem box_Half.ok : FnOK Try.prog 76 box_Half.q :=
  entry_call (ps := [TBox]) (rs := [.flt]) (F := ({ quiet := (ext (ext Xs 51 vec_Sub.q) 75 vec_Sub_1.q), deep := noDeep } : Fns)) (D := D0) (S := tabS []) (t := box_Half.t) mixed (quiet_ext (quiet_ext Xok vec_Sub.ok) vec_Sub_1.ok) (deep_none _) Try.func76 (by kernel_rfl) (sok_fn trivial) (by kernel_rfl) (fun x => by kernel_rfl)
end Go.Proofs.Pen

namespace Go.Proofs.Pen
open Go Go.Proofs
noncomputable def bvh_builder_cost.t (x : ((List ((Option Nat × Option Nat × Option Nat) × Option Nat × Option Nat × Option Nat)) × (List (Option Nat × Option Nat × Option Nat)) × Bool × (List (((Option Nat × Option Nat × Option Nat) × Option Nat × Option Nat × Option Nat) × Int × Int × Int × Int)) × List (Int)) × (List (Int)) × (List (Int))) : T ((Option Nat)) := T.opt (bvh_builder_around (x.1, x.2.1)) fun y => T.opt (box_Half y) fun y => T.opt (bvh_builder_around (x.1, x.2.2)) fun y_1 => T.opt (box_Half y_1) fun y_2 => T.ret (fop BinOp.add (fop BinOp.mul y (some (FloatKind.f64.nearest (↑(List.length x.2.1) : Int)))) (fop BinOp.mul y_2 (some (FloatKind.f64.nearest (↑(List.length x.2.2) : Int)))))
noncomputable def bvh_builder_cost (x : ((List ((Option Nat × Option Nat × Option Nat) × Option Nat × Option Nat × Option Nat)) × (List (Option Nat × Option Nat × Option Nat)) × Bool × (List (((Option Nat × Option Nat × Option Nat) × Option Nat × Option Nat × Option Nat) × Int × Int × Int × Int)) × List (Int)) × (List (Int)) × (List (Int))) : Option ((Option Nat)) := (bvh_builder_cost.t x).run
noncomputable def bvh_builder_cost.q : List AV → T AV := entry [(.ptr TBld), (.sl TI), (.sl TI)] (outR [.flt]) fun x => .opt (bvh_builder_cost x) .ret
theorem bvh_builder_cost.ok : FnOK Try.prog 53 bvh_builder_cost.q :=
  entry_call (ps := [(.ptr TBld), (.sl TI), (.sl TI)]) (rs := [.flt]) (F := ({ quiet := (ext (ext (ext Xs 37 bvh_builder_around.q) 76 box_Half.q) 75 vec_Sub_1.q), deep := noDeep } : Fns)) (D := D0) (S := tabS []) (t := bvh_builder_cost.t) mixed (quiet_ext (quiet_ext (quiet_ext Xok bvh_builder_around.ok) box_Half.ok) vec_Sub_1.ok) (deep_none _) Try.func53 (by kernel_rfl) (sok_fn trivial) (by kernel_rfl) (fun x => by kernel_rfl)
end Go.Proofs.Pen

namespace Go.Proofs.Pen
open Go Go.Proofs
noncomputable def bvh_builder_median_1.t (x : Int × ((List ((Option Nat × Option Nat × Option Nat) × Option Nat × Option Nat × Option Nat)) × (List (Option Nat × Option Nat × Option Nat)) × Bool × (List (((Option Nat × Option Nat × Option Nat) × Option Nat × Option Nat × Option Nat) × Int × Int × Int × Int)) × List (Int)) × Int) : T ((Option Nat)) := T.opt (lget x.2.1.2.1 x.1) fun y => T.opt (vec_Part (y, x.2.2)) fun y => T.ret y
noncomputable def bvh_builder_median_1 (x : Int × ((List ((Option Nat × Option Nat × Option Nat) × Option Nat × Option Nat × Option Nat)) × (List (Option Nat × Option Nat × Option Nat)) × Bool × (List (((Option Nat × Option Nat × Option Nat) × Option Nat × Option Nat × Option Nat) × Int × Int × Int × Int)) × List (Int)) × Int) : Option ((Option Nat)) := (bvh_builder_median_1.t x).run
noncomputable def bvh_builder_median_1.q : List AV → T AV := entry [TI, (.ptr (.ptr TBld)), (.ptr TI)] (outR [.flt]) fun x => .opt (bvh_builder_median_1 x) .ret
theorem bvh_builder_median_1.ok : FnOK Try.prog 54 bvh_builder_median_1.q :=
  entry_call (ps := [TI, (.ptr (.ptr TBld)), (.ptr TI)]) (rs := [.flt]) (F := ({ quiet := (ext Xs 32 vec_Part.q), deep := noDeep } : Fns)) (D := D0) (S := tabS []) (t := bvh_builder_median_1.t) mixed (quiet_ext Xok vec_Part.ok) (deep_none _) Try.func54 (by kernel_rfl) (sok_fn trivial) (by kernel_rfl) (fun x => by kernel_rfl)
end Go.Proofs.Pen

namespace Go.Proofs.Pen
open Go Go.Proofs
noncomputable def NanF.t (x : (Option Nat)) : T (Bool) := T.ret (ford x x != some Ordering.eq)
noncomputable def NanF.q : List AV → T AV := entry [.flt] (outR [.bool]) NanF.t
theorem NanF.ok : FnOK Try.prog 78 NanF.q :=
  entry_in (ps := [.flt]) (rs := [.bool]) (F := ({ quiet := Xs, deep := noDeep } : Fns)) (D := D0) (S := tabS []) (t := NanF.t) mixed Xok (deep_none _) Try.func78 (by kernel_rfl) (sok_fn trivial) (by kernel_rfl) (fun x => by kernel_rfl)
end Go.Proofs.Pen

namespace Go.Proofs.Pen
open Go Go.Proofs
noncomputable def CmpF.t (x : (Option Nat) × (Option Nat)) : T (Int) := T.ite (ford x.1 x.1 != some Ordering.eq) (T.ite (ford x.2 x.2 != some Ordering.eq) (T.ret (0 : Int)) (T.ret (-1 : Int))) (T.ite (ford x.2 x.2 != some Ordering.eq) (T.ret (1 : Int)) (T.ite (ford x.1 x.2 == some Ordering.lt) (T.ret (-1 : Int)) (T.ite (ford x.1 x.2 == some Ordering.gt) (T.ret (1 : Int)) (T.ret (0 : Int)))))
noncomputable def CmpF (x : (Option Nat) × (Option Nat)) : Option (Int) := (CmpF.t x).run
noncomputable def CmpF.q : List AV → T AV := entry [.flt, .flt] (outR [TI]) fun x => .opt (CmpF x) .ret
theorem CmpF.ok : FnOK Try.prog 58 CmpF.q :=
  entry_call (ps := [.flt, .flt]) (rs := [TI]) (F := ({ quiet := (ext Xs 78 NanF.q), deep := noDeep } : Fns)) (D := D0) (S := tabS []) (t := CmpF.t) mixed (quiet_ext Xok NanF.ok) (deep_none _) Try.func58 (by kernel_rfl) (sok_fn trivial) (by kernel_rfl) (fun x => by kernel_rfl)
end Go.Proofs.Pen

namespace Go.Proofs.Pen
open Go Go.Proofs
noncomputable def NanI.t (x : Int) : T (Bool) := T.ret (x != x)
noncomputable def NanI.q : List AV → T AV := entry [TI] (outR [.bool]) NanI.t
theorem NanI.ok : FnOK Try.prog 79 NanI.q :=
  entry_in (ps := [TI]) (rs := [.bool]) (F := ({ quiet := Xs, deep := noDeep } : Fns)) (D := D0) (S := tabS []) (t := NanI.t) mixed Xok (deep_none _) Try.func79 (by kernel_rfl) (sok_fn trivial) (by kernel_rfl) (fun x => by kernel_rfl)
end Go.Proofs.Pen

namespace Go.Proofs.Pen
open Go Go.Proofs
noncomputable def CmpI.t (x : Int × Int) : T (Int) := T.ite (x.1 != x.1) (T.ite (x.2 != x.2) (T.ret (0 : Int)) (T.ret (-1 : Int))) (T.ite (x.2 != x.2) (T.ret (1 : Int)) (T.ite (decide (x.1 < x.2)) (T.ret (-1 : Int)) (T.ite (decide (x.1 > x.2)) (T.ret (1 : Int)) (T.ret (0 : Int)))))
noncomputable def CmpI (x : Int × Int) : Option (Int) := (CmpI.t x).run
noncomputable def CmpI.q : List AV → T AV := entry [TI, TI] (outR [TI]) fun x => .opt (CmpI x) .ret
theorem CmpI.ok : FnOK Try.prog 59 CmpI.q :=
  entry_call (ps := [TI, TI]) (rs := [TI]) (F := ({ quiet := (ext Xs 79 NanI.q), deep := noDeep } : Fns)) (D := D0) (S := tabS []) (t := CmpI.t) mixed (quiet_ext Xok NanI.ok) (deep_none _) Try.func59 (by kernel_rfl) (sok_fn trivial) (by kernel_rfl) (fun x => by kernel_rfl)
end Go.Proofs.Pen

namespace Go.Proofs.Pen
open Go Go.Proofs
def cmp_Or.L0 : List (Nat × Lay) := [(2, .val TI), (3, .val TI), (6, .val (.sl TI)), (7, .val TI), (8, .val TI)]
noncomputable def cmp_Or.t0 (x : Int × Int × (List (Int)) × Int × Int × Unit) : T (Ex × Int × Int × (List (Int)) × Int × Int × Unit) := T.ite (decide (x.2.2.2.2.1 < x.2.2.2.1)) (T.opt (lget x.2.2.1 x.2.2.2.2.1) fun y => T.ite (y != x.2.1) (T.ret (Ex.ret, y, x.2.1, x.2.2.1, x.2.2.2.1, x.2.2.2.2.1, ())) (T.ret (Ex.normal, x.1, x.2.1, x.2.2.1, x.2.2.2.1, W (x.2.2.2.2.1 + (1 : Int)), ()))) (T.ret (Ex.exit (0 : Nat), x.1, x.2.1, x.2.2.1, x.2.2.2.1, x.2.2.2.2.1, ()))
noncomputable def cmp_Or.l0 (x : Int × Int × (List (Int)) × Int × Int × Unit) : Option (Ex × Int × Int × (List (Int)) × Int × Int × Unit) := (iterT cmp_Or.t0 rounds x).run
theorem cmp_Or.k0 : bodies 0 (lp Try.f57 []) = [.loop (loopIn 0 (lp Try.f57 []))] ∧ WP Try.prog 0 (.block 0 (.loop (loopIn 0 (lp Try.f57 [])))) (loopS cmp_Or.L0 18 0 [.exit 0, .ret] cmp_Or.l0) :=
  loop_tree (L := cmp_Or.L0) (F := ({ quiet := Xs, deep := noDeep } : Fns)) (D := D0) (tab := []) (t := cmp_Or.t0) mixed Xok (deep_none _) (fun _ => rfl) (by kernel_rfl) (by kernel_rfl) trivial (fun x => by kernel_rfl)
noncomputable def cmp_Or.t (x : (List (Int))) : T (Int) := T.opt (cmp_Or.l0 ((0 : Int), (0 : Int), x, (↑(List.length x) : Int), (0 : Int), ())) fun y => T.ite (exEq y.1 (Ex.exit (0 : Nat))) (T.ret y.2.2.1) (T.ite (exEq y.1 Ex.ret) (T.ret y.2.1) T.fail)
noncomputable def cmp_Or (x : (List (Int))) : Option (Int) := (cmp_Or.t x).run
noncomputable def cmp_Or.q : List AV → T AV := entry [(.sl TI)] (outR [TI]) fun x => .opt (cmp_Or x) .ret
theorem cmp_Or.ok : FnOK Try.prog 57 cmp_Or.q :=
  entry_call (ps := [(.sl TI)]) (rs := [TI]) (F := ({ quiet := Xs, deep := noDeep } : Fns)) (D := D0) (S := tabS [(0, loopS cmp_Or.L0 18 0 [.exit 0, .ret] cmp_Or.l0)]) (t := cmp_Or.t) mixed Xok (deep_none _) Try.func57 (by kernel_rfl) (sok_fn ⟨cmp_Or.k0, trivial⟩) (by kernel_rfl) (fun x => by kernel_rfl)
end Go.Proofs.Pen

namespace Go.Proofs.Pen
open Go Go.Proofs
noncomputable def bvh_builder_median_2.t (x : Int × Int × (((List ((Option Nat × Option Nat × Option Nat) × Option Nat × Option Nat × Option Nat)) × (List (Option Nat × Option Nat × Option Nat)) × Bool × (List (((Option Nat × Option Nat × Option Nat) × Option Nat × Option Nat × Option Nat) × Int × Int × Int × Int)) × List (Int)) × Int)) : T (Int) := T.opt (bvh_builder_median_1 (x.1, x.2.2)) fun y => T.opt (bvh_builder_median_1 x.2) fun y_1 => T.opt (CmpF (y, y_1)) fun y => T.opt (CmpI (x.1, x.2.1)) fun y_2 => T.opt (cmp_Or (List.take (2 : Nat) [y, y_2])) fun y => T.ret y
noncomputable def bvh_builder_median_2 (x : Int × Int × (((List ((Option Nat × Option Nat × Option Nat) × Option Nat × Option Nat × Option Nat)) × (List (Option Nat × Option Nat × Option Nat)) × Bool × (List (((Option Nat × Option Nat × Option Nat) × Option Nat × Option Nat × Option Nat) × Int × Int × Int × Int)) × List (Int)) × Int)) : Option (Int) := (bvh_builder_median_2.t x).run
noncomputable def bvh_builder_median_2.q : List AV → T AV := entry [TI, TI, (.ptr (.clo 54 (.pair (.ptr (.ptr TBld)) (.ptr TI))))] (outR [TI]) fun x => .opt (bvh_builder_median_2 x) .ret
theorem bvh_builder_median_2.ok : FnOK Try.prog 56 bvh_builder_median_2.q :=
  entry_call (ps := [TI, TI, (.ptr (.clo 54 (.pair (.ptr (.ptr TBld)) (.ptr TI))))]) (rs := [TI]) (F := ({ quiet := (ext (ext (ext (ext Xs 58 CmpF.q) 59 CmpI.q) 57 cmp_Or.q) 54 bvh_builder_median_1.q), deep := noDeep } : Fns)) (D := D0) (S := tabS []) (t := bvh_builder_median_2.t) mixed (quiet_ext (quiet_ext (quiet_ext (quiet_ext Xok CmpF.ok) CmpI.ok) cmp_Or.ok) bvh_builder_median_1.ok) (deep_none _) Try.func56 (by kernel_rfl) (sok_fn trivial) (by kernel_rfl) (fun x => by kernel_rfl)
end Go.Proofs.Pen

namespace Go.Proofs.Pen
open Go Go.Proofs
noncomputable def bvh_builder_median.deeps : Deeps := { D := [25, 55], C := [], frz := false, S := fun _ _ => noS }
theorem bvh_builder_median.deepsOk : LoopsOK Try.prog bvh_builder_median.deeps.S := (loops_none _)
noncomputable def bvh_builder_median.tabl : DTab := (tbExt tb 55 (frzD isOslA (sortE Try.prog 56 (.ptr (.clo 54 (.pair (.ptr (.ptr TBld)) (.ptr TI)))) fun x a b => bvh_builder_median_2 (a, b, x))))
theorem bvh_builder_median.tablOk : TBOK Try.prog bvh_builder_median.tabl := (tb_ext tbOk (frzD_ok (sortE_ok (ct := (.ptr (.clo 54 (.pair (.ptr (.ptr TBld)) (.ptr TI))))) (f := fun x a b => bvh_builder_median_2 (a, b, x)) (by kernel_rfl) sorts_fn bvh_builder_median_2.ok (fun x a b n h => by show (T.opt (bvh_builder_median_2 (a, b, x)) fun y => T.ret (AV.it .i64 y)).run = _; rw [tr_opt, h]; rfl))))
noncomputable def bvh_builder_median.t (x : ((List ((Option Nat × Option Nat × Option Nat) × Option Nat × Option Nat × Option Nat)) × (List (Option Nat × Option Nat × Option Nat)) × Bool × (List (((Option Nat × Option Nat × Option Nat) × Option Nat × Option Nat × Option Nat) × Int × Int × Int × Int)) × List (Int)) × (List (Int)) × Int) : T ((List (Int)) × (List (Int))) := T.ite (decide (List.length x.2.1 * (8 : Nat) ≤ most)) (T.opt (sortO (fun a b => bvh_builder_median_2 (a, b, x.1, x.2.2)) (List.take (List.length x.2.1) (intsOf rfl x.2.1))) fun y => T.ite (decide ((0 : Int) ≤ (0 : Int)) && decide ((0 : Int) ≤ W ((↑(List.length x.2.1) : Int).tdiv (2 : Int))) && decide (W ((↑(List.length x.2.1) : Int).tdiv (2 : Int)) ≤ (↑(List.length x.2.1) : Int))) (T.ite (decide ((0 : Int) ≤ W ((↑(List.length x.2.1) : Int).tdiv (2 : Int))) && decide (W ((↑(List.length x.2.1) : Int).tdiv (2 : Int)) ≤ (↑(List.length x.2.1) : Int)) && decide ((↑(List.length x.2.1) : Int) ≤ (↑(List.length x.2.1) : Int))) (T.ret (List.take ((W ((↑(List.length x.2.1) : Int).tdiv (2 : Int))).toNat - Int.toNat (0 : Int)) (List.drop ((0 : Nat) + Int.toNat (0 : Int)) (y ++ List.drop (List.length x.2.1) (intsOf rfl x.2.1))), List.take ((↑(List.length x.2.1) : Int).toNat - (W ((↑(List.length x.2.1) : Int).tdiv (2 : Int))).toNat) (List.drop ((0 : Nat) + (W ((↑(List.length x.2.1) : Int).tdiv (2 : Int))).toNat) (y ++ List.drop (List.length x.2.1) (intsOf rfl x.2.1))))) T.fail) T.fail) T.fail
noncomputable def bvh_builder_median (x : ((List ((Option Nat × Option Nat × Option Nat) × Option Nat × Option Nat × Option Nat)) × (List (Option Nat × Option Nat × Option Nat)) × Bool × (List (((Option Nat × Option Nat × Option Nat) × Option Nat × Option Nat × Option Nat) × Int × Int × Int × Int)) × List (Int)) × (List (Int)) × Int) : Option ((List (Int)) × (List (Int))) := (bvh_builder_median.t x).run
noncomputable def bvh_builder_median.q : List AV → T AV := entry [(.ptr TBld), (.sl TI), TI] (outR [(.sl TI), (.sl TI)]) fun x => .opt (bvh_builder_median x) .ret
theorem bvh_builder_median.ok : FnOK Try.prog 42 bvh_builder_median.q :=
  entry_call (ps := [(.ptr TBld), (.sl TI), TI]) (rs := [(.sl TI), (.sl TI)]) (F := (dpT Try.prog (ext (ext Xs 54 bvh_builder_median_1.q) 56 bvh_builder_median_2.q) bvh_builder_median.deeps bvh_builder_median.tabl 100 8)) (D := (inL bvh_builder_median.deeps.D)) (S := tabS []) (t := bvh_builder_median.t) mixed (dpT_ok mixed (quiet_ext (quiet_ext Xok bvh_builder_median_1.ok) bvh_builder_median_2.ok) bvh_builder_median.deepsOk bvh_builder_median.tablOk 100 8).1 (dpT_ok mixed (quiet_ext (quiet_ext Xok bvh_builder_median_1.ok) bvh_builder_median_2.ok) bvh_builder_median.deepsOk bvh_builder_median.tablOk 100 8).2 Try.func42 (by kernel_rfl) (sok_fn trivial) (by kernel_rfl) (fun x => by kernel_rfl)
theorem bvh_builder_median.okF : FrOK Try.prog 42 bvh_builder_median.q :=
  entry_fresh (ps := [(.ptr TBld), (.sl TI), TI]) (rs := [(.sl TI), (.sl TI)]) (F := (dpT Try.prog (ext (ext Xs 54 bvh_builder_median_1.q) 56 bvh_builder_median_2.q) bvh_builder_median.deeps bvh_builder_median.tabl 100 8)) (D := (inL bvh_builder_median.deeps.D)) (S := tabS []) (t := bvh_builder_median.t) mixed (dpT_ok mixed (quiet_ext (quiet_ext Xok bvh_builder_median_1.ok) bvh_builder_median_2.ok) bvh_builder_median.deepsOk bvh_builder_median.tablOk 100 8).1 (dpT_ok mixed (quiet_ext (quiet_ext Xok bvh_builder_median_1.ok) bvh_builder_median_2.ok) bvh_builder_median.deepsOk bvh_builder_median.tablOk 100 8).2 Try.func42 (by kernel_rfl) (sok_fn trivial) (by kernel_rfl) (fun x => by kernel_rfl) entry_run
end Go.Proofs.Pen

namespace Go.Proofs.Pen
open Go Go.Proofs
noncomputable def bvh_builder_cheapest.deeps : Deeps := { D := [42, 25, 55], C := [], frz := false, S := fun _ _ => noS }
theorem bvh_builder_cheapest.deepsOk : LoopsOK Try.prog bvh_builder_cheapest.deeps.S := (loops_none _)
noncomputable def bvh_builder_cheapest.tabl : DTab := (tbExt tb 55 (frzD isOslA (sortE Try.prog 56 (.ptr (.clo 54 (.pair (.ptr (.ptr TBld)) (.ptr TI)))) fun x a b => bvh_builder_median_2 (a, b, x))))
theorem bvh_builder_cheapest.tablOk : TBOK Try.prog bvh_builder_cheapest.tabl := (tb_ext tbOk (frzD_ok (sortE_ok (ct := (.ptr (.clo 54 (.pair (.ptr (.ptr TBld)) (.ptr TI))))) (f := fun x a b => bvh_builder_median_2 (a, b, x)) (by kernel_rfl) sorts_fn bvh_builder_median_2.ok (fun x a b n h => by show (T.opt (bvh_builder_median_2 (a, b, x)) fun y => T.ret (AV.it .i64 y)).run = _; rw [tr_opt, h]; rfl))))
def bvh_builder_cheapest.L2 : List (Nat × Lay) := [(0, .val (.ptr TBld)), (1, .val (.sl TI)), (2, .val TI), (7, .box TBox), (10, .obx [.own TI, .own TI]), (11, .val .flt), (12, .val TI), (13, .obx [.own TI, .own TI]), (32, .val (.sl TI)), (33, .val TI), (34, .val TI)]
noncomputable def bvh_builder_cheapest.t2 (x : ((List ((Option Nat × Option Nat × Option Nat) × Option Nat × Option Nat × Option Nat)) × (List (Option Nat × Option Nat × Option Nat)) × Bool × (List (((Option Nat × Option Nat × Option Nat) × Option Nat × Option Nat × Option Nat) × Int × Int × Int × Int)) × List (Int)) × (List (Int)) × Int × ((Option Nat × Option Nat × Option Nat) × Option Nat × Option Nat × Option Nat) × (List Int × List Int × Unit) × (Option Nat) × Int × (List Int × List Int × Unit) × (List (Int)) × Int × Int × Unit) : T (Ex × ((List ((Option Nat × Option Nat × Option Nat) × Option Nat × Option Nat × Option Nat)) × (List (Option Nat × Option Nat × Option Nat)) × Bool × (List (((Option Nat × Option Nat × Option Nat) × Option Nat × Option Nat × Option Nat) × Int × Int × Int × Int)) × List (Int)) × (List (Int)) × Int × ((Option Nat × Option Nat × Option Nat) × Option Nat × Option Nat × Option Nat) × (List Int × List Int × Unit) × (Option Nat) × Int × (List Int × List Int × Unit) × (List (Int)) × Int × Int × Unit) := T.ite (decide (x.2.2.2.2.2.2.2.2.2.2.1 < x.2.2.2.2.2.2.2.2.2.1)) (T.opt (lget x.2.2.2.2.2.2.2.2.1 x.2.2.2.2.2.2.2.2.2.2.1) fun y => T.opt (bvh_builder_bin (x.1, y, x.2.2.1, x.2.2.2.1)) fun y_1 => T.ite (decide (y_1 ≥ x.2.2.2.2.2.2.1)) (T.ite ((1 : Int) == (↑(0 : Nat) : Int)) (T.ite (decide ((x.2.2.2.2.2.2.2.1.1.length + (1 : Nat)) * nat_lit 8 ≤ most)) (T.ite ((1 : Int) == (↑(0 : Nat) : Int)) (T.ret (Ex.normal, x.1, x.2.1, x.2.2.1, x.2.2.2.1, (List.take x.2.2.2.2.1.1.length x.2.2.2.2.1.1, List.take x.2.2.2.2.1.2.1.length x.2.2.2.2.1.2.1, ()), x.2.2.2.2.2.1, x.2.2.2.2.2.2.1, (List.take (x.2.2.2.2.2.2.2.1.1.length + (1 : Nat)) (List.take x.2.2.2.2.2.2.2.1.1.length x.2.2.2.2.2.2.2.1.1 ++ [y]), List.take x.2.2.2.2.2.2.2.1.2.1.length x.2.2.2.2.2.2.2.1.2.1, ()), x.2.2.2.2.2.2.2.2.1, x.2.2.2.2.2.2.2.2.2.1, W (x.2.2.2.2.2.2.2.2.2.2.1 + (1 : Int)), ())) (T.ite ((1 : Int) == (↑((0 : Nat) + (1 : Nat)) : Int)) T.fail T.fail)) T.fail) (T.ite ((1 : Int) == (↑((0 : Nat) + (1 : Nat)) : Int)) (T.ite (decide ((x.2.2.2.2.2.2.2.1.2.1.length + (1 : Nat)) * nat_lit 8 ≤ most)) (T.ite ((1 : Int) == (↑(0 : Nat) : Int)) T.fail (T.ite ((1 : Int) == (↑((0 : Nat) + (1 : Nat)) : Int)) (T.ret (Ex.normal, x.1, x.2.1, x.2.2.1, x.2.2.2.1, (List.take x.2.2.2.2.1.1.length x.2.2.2.2.1.1, List.take x.2.2.2.2.1.2.1.length x.2.2.2.2.1.2.1, ()), x.2.2.2.2.2.1, x.2.2.2.2.2.2.1, (List.take x.2.2.2.2.2.2.2.1.1.length x.2.2.2.2.2.2.2.1.1, List.take (x.2.2.2.2.2.2.2.1.2.1.length + (1 : Nat)) (List.take x.2.2.2.2.2.2.2.1.2.1.length x.2.2.2.2.2.2.2.1.2.1 ++ [y]), ()), x.2.2.2.2.2.2.2.2.1, x.2.2.2.2.2.2.2.2.2.1, W (x.2.2.2.2.2.2.2.2.2.2.1 + (1 : Int)), ())) T.fail)) T.fail) T.fail)) (T.ite ((0 : Int) == (↑(0 : Nat) : Int)) (T.ite (decide ((x.2.2.2.2.2.2.2.1.1.length + (1 : Nat)) * nat_lit 8 ≤ most)) (T.ite ((0 : Int) == (↑(0 : Nat) : Int)) (T.ret (Ex.normal, x.1, x.2.1, x.2.2.1, x.2.2.2.1, (List.take x.2.2.2.2.1.1.length x.2.2.2.2.1.1, List.take x.2.2.2.2.1.2.1.length x.2.2.2.2.1.2.1, ()), x.2.2.2.2.2.1, x.2.2.2.2.2.2.1, (List.take (x.2.2.2.2.2.2.2.1.1.length + (1 : Nat)) (List.take x.2.2.2.2.2.2.2.1.1.length x.2.2.2.2.2.2.2.1.1 ++ [y]), List.take x.2.2.2.2.2.2.2.1.2.1.length x.2.2.2.2.2.2.2.1.2.1, ()), x.2.2.2.2.2.2.2.2.1, x.2.2.2.2.2.2.2.2.2.1, W (x.2.2.2.2.2.2.2.2.2.2.1 + (1 : Int)), ())) (T.ite ((0 : Int) == (↑((0 : Nat) + (1 : Nat)) : Int)) T.fail T.fail)) T.fail) (T.ite ((0 : Int) == (↑((0 : Nat) + (1 : Nat)) : Int)) (T.ite (decide ((x.2.2.2.2.2.2.2.1.2.1.length + (1 : Nat)) * nat_lit 8 ≤ most)) (T.ite ((0 : Int) == (↑(0 : Nat) : Int)) T.fail (T.ite ((0 : Int) == (↑((0 : Nat) + (1 : Nat)) : Int)) (T.ret (Ex.normal, x.1, x.2.1, x.2.2.1, x.2.2.2.1, (List.take x.2.2.2.2.1.1.length x.2.2.2.2.1.1, List.take x.2.2.2.2.1.2.1.length x.2.2.2.2.1.2.1, ()), x.2.2.2.2.2.1, x.2.2.2.2.2.2.1, (List.take x.2.2.2.2.2.2.2.1.1.length x.2.2.2.2.2.2.2.1.1, List.take (x.2.2.2.2.2.2.2.1.2.1.length + (1 : Nat)) (List.take x.2.2.2.2.2.2.2.1.2.1.length x.2.2.2.2.2.2.2.1.2.1 ++ [y]), ()), x.2.2.2.2.2.2.2.2.1, x.2.2.2.2.2.2.2.2.2.1, W (x.2.2.2.2.2.2.2.2.2.2.1 + (1 : Int)), ())) T.fail)) T.fail) T.fail))) (T.ret (Ex.exit (2 : Nat), x.1, x.2.1, x.2.2.1, x.2.2.2.1, (List.take x.2.2.2.2.1.1.length x.2.2.2.2.1.1, List.take x.2.2.2.2.1.2.1.length x.2.2.2.2.1.2.1, ()), x.2.2.2.2.2.1, x.2.2.2.2.2.2.1, (List.take x.2.2.2.2.2.2.2.1.1.length x.2.2.2.2.2.2.2.1.1, List.take x.2.2.2.2.2.2.2.1.2.1.length x.2.2.2.2.2.2.2.1.2.1, ()), x.2.2.2.2.2.2.2.2.1, x.2.2.2.2.2.2.2.2.2.1, x.2.2.2.2.2.2.2.2.2.2.1, ()))
noncomputable def bvh_builder_cheapest.l2 (x : ((List ((Option Nat × Option Nat × Option Nat) × Option Nat × Option Nat × Option Nat)) × (List (Option Nat × Option Nat × Option Nat)) × Bool × (List (((Option Nat × Option Nat × Option Nat) × Option Nat × Option Nat × Option Nat) × Int × Int × Int × Int)) × List (Int)) × (List (Int)) × Int × ((Option Nat × Option Nat × Option Nat) × Option Nat × Option Nat × Option Nat) × (List Int × List Int × Unit) × (Option Nat) × Int × (List Int × List Int × Unit) × (List (Int)) × Int × Int × Unit) : Option (Ex × ((List ((Option Nat × Option Nat × Option Nat) × Option Nat × Option Nat × Option Nat)) × (List (Option Nat × Option Nat × Option Nat)) × Bool × (List (((Option Nat × Option Nat × Option Nat) × Option Nat × Option Nat × Option Nat) × Int × Int × Int × Int)) × List (Int)) × (List (Int)) × Int × ((Option Nat × Option Nat × Option Nat) × Option Nat × Option Nat × Option Nat) × (List Int × List Int × Unit) × (Option Nat) × Int × (List Int × List Int × Unit) × (List (Int)) × Int × Int × Unit) := (iterT bvh_builder_cheapest.t2 rounds x).run
theorem bvh_builder_cheapest.k2 : bodies 2 (lp Try.f41 [0]) = [.loop (loopIn 2 (lp Try.f41 [0]))] ∧ WP Try.prog 0 (.block 2 (.loop (loopIn 2 (lp Try.f41 [0])))) (loopS bvh_builder_cheapest.L2 95 2 [.exit 2] bvh_builder_cheapest.l2) :=
  loop_tree (L := bvh_builder_cheapest.L2) (F := (dpT Try.prog (ext (ext (ext (ext (ext (ext (ext Xs 32 vec_Part.q) 52 bvh_builder_bin.q) 53 bvh_builder_cost.q) 42 bvh_builder_median.q) 56 bvh_builder_median_2.q) 54 bvh_builder_median_1.q) 75 vec_Sub_1.q) bvh_builder_cheapest.deeps bvh_builder_cheapest.tabl 100 8)) (D := (inL bvh_builder_cheapest.deeps.D)) (tab := []) (t := bvh_builder_cheapest.t2) mixed (dpT_ok mixed (quiet_ext (quiet_ext (quiet_ext (quiet_ext (quiet_ext (quiet_ext (quiet_ext Xok vec_Part.ok) bvh_builder_bin.ok) bvh_builder_cost.ok) bvh_builder_median.ok) bvh_builder_median_2.ok) bvh_builder_median_1.ok) vec_Sub_1.ok) bvh_builder_cheapest.deepsOk bvh_builder_cheapest.tablOk 100 8).1 (dpT_ok mixed (quiet_ext (quiet_ext (quiet_ext (quiet_ext (quiet_ext (quiet_ext (quiet_ext Xok vec_Part.ok) bvh_builder_bin.ok) bvh_builder_cost.ok) bvh_builder_median.ok) bvh_builder_median_2.ok) bvh_builder_median_1.ok) vec_Sub_1.ok) bvh_builder_cheapest.deepsOk bvh_builder_cheapest.tablOk 100 8).2 (fun _ => rfl) (by kernel_rfl) (by kernel_rfl) trivial (fun x => by kernel_rfl)
def bvh_builder_cheapest.L0 : List (Nat × Lay) := [(0, .val (.ptr TBld)), (1, .val (.sl TI)), (2, .val TI), (7, .box TBox), (10, .obx [.own TI, .own TI]), (11, .val .flt), (12, .val TI)]
noncomputable def bvh_builder_cheapest.t0 (x : ((List ((Option Nat × Option Nat × Option Nat) × Option Nat × Option Nat × Option Nat)) × (List (Option Nat × Option Nat × Option Nat)) × Bool × (List (((Option Nat × Option Nat × Option Nat) × Option Nat × Option Nat × Option Nat) × Int × Int × Int × Int)) × List (Int)) × (List (Int)) × Int × ((Option Nat × Option Nat × Option Nat) × Option Nat × Option Nat × Option Nat) × (List Int × List Int × Unit) × (Option Nat) × Int × Unit) : T (Ex × ((List ((Option Nat × Option Nat × Option Nat) × Option Nat × Option Nat × Option Nat)) × (List (Option Nat × Option Nat × Option Nat)) × Bool × (List (((Option Nat × Option Nat × Option Nat) × Option Nat × Option Nat × Option Nat) × Int × Int × Int × Int)) × List (Int)) × (List (Int)) × Int × ((Option Nat × Option Nat × Option Nat) × Option Nat × Option Nat × Option Nat) × (List Int × List Int × Unit) × (Option Nat) × Int × Unit) := T.ite (decide (x.2.2.2.2.2.2.1 < (8 : Int))) (T.opt (vec_Part (x.2.2.2.1.2, x.2.2.1)) fun y => T.opt (vec_Part (x.2.2.2.1.1, x.2.2.1)) fun y_1 => T.ite (!ford y y_1 == some Ordering.gt) (T.ret (Ex.exit (0 : Nat), x.1, x.2.1, x.2.2.1, x.2.2.2.1, (List.take x.2.2.2.2.1.1.length x.2.2.2.2.1.1, List.take x.2.2.2.2.1.2.1.length x.2.2.2.2.1.2.1, ()), x.2.2.2.2.2.1, x.2.2.2.2.2.2.1, ())) (T.opt (bvh_builder_cheapest.l2 (x.1, x.2.1, x.2.2.1, x.2.2.2.1, (List.take x.2.2.2.2.1.1.length x.2.2.2.2.1.1, List.take x.2.2.2.2.1.2.1.length x.2.2.2.2.1.2.1, ()), x.2.2.2.2.2.1, x.2.2.2.2.2.2.1, ([], [], ()), x.2.1, (↑(List.length x.2.1) : Int), (0 : Int), ())) fun y => T.ite (exEq y.1 (Ex.exit (2 : Nat))) (T.ite ((↑y.2.2.2.2.2.2.2.2.1.1.length : Int) == (0 : Int)) (T.ret (Ex.normal, y.2.1, y.2.2.1, y.2.2.2.1, y.2.2.2.2.1, (List.take y.2.2.2.2.2.1.1.length y.2.2.2.2.2.1.1, List.take y.2.2.2.2.2.1.2.1.length y.2.2.2.2.2.1.2.1, ()), y.2.2.2.2.2.2.1, W (y.2.2.2.2.2.2.2.1 + (1 : Int)), ())) (T.ite ((↑y.2.2.2.2.2.2.2.2.1.2.1.length : Int) == (0 : Int)) (T.ret (Ex.normal, y.2.1, y.2.2.1, y.2.2.2.1, y.2.2.2.2.1, (List.take y.2.2.2.2.2.1.1.length y.2.2.2.2.2.1.1, List.take y.2.2.2.2.2.1.2.1.length y.2.2.2.2.2.1.2.1, ()), y.2.2.2.2.2.2.1, W (y.2.2.2.2.2.2.2.1 + (1 : Int)), ())) (T.opt (bvh_builder_cost (y.2.1, List.take y.2.2.2.2.2.2.2.2.1.1.length y.2.2.2.2.2.2.2.2.1.1, List.take y.2.2.2.2.2.2.2.2.1.2.1.length y.2.2.2.2.2.2.2.2.1.2.1)) fun y_2 => T.ite ((↑y.2.2.2.2.2.1.1.length : Int) == (0 : Int) || ford y_2 y.2.2.2.2.2.2.1 == some Ordering.lt) (T.ret (Ex.normal, y.2.1, y.2.2.1, y.2.2.2.1, y.2.2.2.2.1, (List.take y.2.2.2.2.2.2.2.2.1.1.length y.2.2.2.2.2.2.2.2.1.1, List.take y.2.2.2.2.2.2.2.2.1.2.1.length y.2.2.2.2.2.2.2.2.1.2.1, ()), y_2, W (y.2.2.2.2.2.2.2.1 + (1 : Int)), ())) (T.ret (Ex.normal, y.2.1, y.2.2.1, y.2.2.2.1, y.2.2.2.2.1, (List.take y.2.2.2.2.2.1.1.length y.2.2.2.2.2.1.1, List.take y.2.2.2.2.2.1.2.1.length y.2.2.2.2.2.1.2.1, ()), y.2.2.2.2.2.2.1, W (y.2.2.2.2.2.2.2.1 + (1 : Int)), ()))))) T.fail)) (T.ret (Ex.exit (0 : Nat), x.1, x.2.1, x.2.2.1, x.2.2.2.1, (List.take x.2.2.2.2.1.1.length x.2.2.2.2.1.1, List.take x.2.2.2.2.1.2.1.length x.2.2.2.2.1.2.1, ()), x.2.2.2.2.2.1, x.2.2.2.2.2.2.1, ()))
noncomputable def bvh_builder_cheapest.l0 (x : ((List ((Option Nat × Option Nat × Option Nat) × Option Nat × Option Nat × Option Nat)) × (List (Option Nat × Option Nat × Option Nat)) × Bool × (List (((Option Nat × Option Nat × Option Nat) × Option Nat × Option Nat × Option Nat) × Int × Int × Int × Int)) × List (Int)) × (List (Int)) × Int × ((Option Nat × Option Nat × Option Nat) × Option Nat × Option Nat × Option Nat) × (List Int × List Int × Unit) × (Option Nat) × Int × Unit) : Option (Ex × ((List ((Option Nat × Option Nat × Option Nat) × Option Nat × Option Nat × Option Nat)) × (List (Option Nat × Option Nat × Option Nat)) × Bool × (List (((Option Nat × Option Nat × Option Nat) × Option Nat × Option Nat × Option Nat) × Int × Int × Int × Int)) × List (Int)) × (List (Int)) × Int × ((Option Nat × Option Nat × Option Nat) × Option Nat × Option Nat × Option Nat) × (List Int × List Int × Unit) × (Option Nat) × Int × Unit) := (iterT bvh_builder_cheapest.t0 rounds x).run
theorem bvh_builder_cheapest.k0 : bodies 0 (lp Try.f41 []) = [.loop (loopIn 0 (lp Try.f41 []))] ∧ WP Try.prog 0 (.block 0 (.loop (loopIn 0 (lp Try.f41 [])))) (loopS bvh_builder_cheapest.L0 95 0 [.exit 0] bvh_builder_cheapest.l0) :=
  loop_tree (L := bvh_builder_cheapest.L0) (F := (dpT Try.prog (ext (ext (ext (ext (ext (ext (ext Xs 32 vec_Part.q) 52 bvh_builder_bin.q) 53 bvh_builder_cost.q) 42 bvh_builder_median.q) 56 bvh_builder_median_2.q) 54 bvh_builder_median_1.q) 75 vec_Sub_1.q) bvh_builder_cheapest.deeps bvh_builder_cheapest.tabl 100 8)) (D := (inL bvh_builder_cheapest.deeps.D)) (tab := [(2, loopS bvh_builder_cheapest.L2 95 2 [.exit 2] bvh_builder_cheapest.l2)]) (t := bvh_builder_cheapest.t0) mixed (dpT_ok mixed (quiet_ext (quiet_ext (quiet_ext (quiet_ext (quiet_ext (quiet_ext (quiet_ext Xok vec_Part.ok) bvh_builder_bin.ok) bvh_builder_cost.ok) bvh_builder_median.ok) bvh_builder_median_2.ok) bvh_builder_median_1.ok) vec_Sub_1.ok) bvh_builder_cheapest.deepsOk bvh_builder_cheapest.tablOk 100 8).1 (dpT_ok mixed (quiet_ext (quiet_ext (quiet_ext (quiet_ext (quiet_ext (quiet_ext (quiet_ext Xok vec_Part.ok) bvh_builder_bin.ok) bvh_builder_cost.ok) bvh_builder_median.ok) bvh_builder_median_2.ok) bvh_builder_median_1.ok) vec_Sub_1.ok) bvh_builder_cheapest.deepsOk bvh_builder_cheapest.tablOk 100 8).2 (fun _ => rfl) (by kernel_rfl) (by kernel_rfl) ⟨bvh_builder_cheapest.k2, trivial⟩ (fun x => by kernel_rfl)
noncomputable def bvh_builder_cheapest.t (x : ((List ((Option Nat × Option Nat × Option Nat) × Option Nat × Option Nat × Option Nat)) × (List (Option Nat × Option Nat × Option Nat)) × Bool × (List (((Option Nat × Option Nat × Option Nat) × Option Nat × Option Nat × Option Nat) × Int × Int × Int × Int)) × List (Int)) × (List (Int)) × Int × ((Option Nat × Option Nat × Option Nat) × Option Nat × Option Nat × Option Nat)) : T ((List (Int)) × (List (Int))) := T.opt (bvh_builder_cheapest.l0 (x.1, x.2.1, x.2.2.1, x.2.2.2, ([], [], ()), some (0 : Nat), (1 : Int), ())) fun y => T.ite (exEq y.1 (Ex.exit (0 : Nat))) (T.ite ((↑y.2.2.2.2.2.1.1.length : Int) == (0 : Int)) (T.ite (decide (List.length y.2.2.1 * (8 : Nat) ≤ most)) (T.opt (sortO (fun a b => bvh_builder_median_2 (a, b, y.2.1, y.2.2.2.1)) (List.take (List.length y.2.2.1) (intsOf rfl y.2.2.1))) fun y_1 => T.ite (decide ((0 : Int) ≤ (0 : Int)) && decide ((0 : Int) ≤ W ((↑(List.length y.2.2.1) : Int).tdiv (2 : Int))) && decide (W ((↑(List.length y.2.2.1) : Int).tdiv (2 : Int)) ≤ (↑(List.length y.2.2.1) : Int))) (T.ite (decide ((0 : Int) ≤ W ((↑(List.length y.2.2.1) : Int).tdiv (2 : Int))) && decide (W ((↑(List.length y.2.2.1) : Int).tdiv (2 : Int)) ≤ (↑(List.length y.2.2.1) : Int)) && decide ((↑(List.length y.2.2.1) : Int) ≤ (↑(List.length y.2.2.1) : Int))) (T.ret (List.take ((W ((↑(List.length y.2.2.1) : Int).tdiv (2 : Int))).toNat - Int.toNat (0 : Int)) (List.drop ((0 : Nat) + Int.toNat (0 : Int)) (y_1 ++ List.drop (List.length y.2.2.1) (intsOf rfl y.2.2.1))), List.take ((↑(List.length y.2.2.1) : Int).toNat - (W ((↑(List.length y.2.2.1) : Int).tdiv (2 : Int))).toNat) (List.drop ((0 : Nat) + (W ((↑(List.length y.2.2.1) : Int).tdiv (2 : Int))).toNat) (y_1 ++ List.drop (List.length y.2.2.1) (intsOf rfl y.2.2.1))))) T.fail) T.fail) T.fail) (T.ret (List.take y.2.2.2.2.2.1.1.length y.2.2.2.2.2.1.1, List.take y.2.2.2.2.2.1.2.1.length y.2.2.2.2.2.1.2.1))) T.fail
noncomputable def bvh_builder_cheapest (x : ((List ((Option Nat × Option Nat × Option Nat) × Option Nat × Option Nat × Option Nat)) × (List (Option Nat × Option Nat × Option Nat)) × Bool × (List (((Option Nat × Option Nat × Option Nat) × Option Nat × Option Nat × Option Nat) × Int × Int × Int × Int)) × List (Int)) × (List (Int)) × Int × ((Option Nat × Option Nat × Option Nat) × Option Nat × Option Nat × Option Nat)) : Option ((List (Int)) × (List (Int))) := (bvh_builder_cheapest.t x).run
noncomputable def bvh_builder_cheapest.q : List AV → T AV := entry [(.ptr TBld), (.sl TI), TI, TBox] (outR [(.sl TI), (.sl TI)]) fun x => .opt (bvh_builder_cheapest x) .ret
theorem bvh_builder_cheapest.okF : FrOK Try.prog 41 bvh_builder_cheapest.q :=
  entry_fresh (ps := [(.ptr TBld), (.sl TI), TI, TBox]) (rs := [(.sl TI), (.sl TI)]) (F := (dpT Try.prog (ext (ext (ext (ext (ext (ext (ext Xs 32 vec_Part.q) 52 bvh_builder_bin.q) 53 bvh_builder_cost.q) 42 bvh_builder_median.q) 56 bvh_builder_median_2.q) 54 bvh_builder_median_1.q) 75 vec_Sub_1.q) bvh_builder_cheapest.deeps bvh_builder_cheapest.tabl 100 8)) (D := (inL bvh_builder_cheapest.deeps.D)) (S := tabS [(0, loopS bvh_builder_cheapest.L0 95 0 [.exit 0] bvh_builder_cheapest.l0)]) (t := bvh_builder_cheapest.t) mixed (dpT_ok mixed (quiet_ext (quiet_ext (quiet_ext (quiet_ext (quiet_ext (quiet_ext (quiet_ext Xok vec_Part.ok) bvh_builder_bin.ok) bvh_builder_cost.ok) bvh_builder_median.ok) bvh_builder_median_2.ok) bvh_builder_median_1.ok) vec_Sub_1.ok) bvh_builder_cheapest.deepsOk bvh_builder_cheapest.tablOk 100 8).1 (dpT_ok mixed (quiet_ext (quiet_ext (quiet_ext (quiet_ext (quiet_ext (quiet_ext (quiet_ext Xok vec_Part.ok) bvh_builder_bin.ok) bvh_builder_cost.ok) bvh_builder_median.ok) bvh_builder_median_2.ok) bvh_builder_median_1.ok) vec_Sub_1.ok) bvh_builder_cheapest.deepsOk bvh_builder_cheapest.tablOk 100 8).2 Try.func41 (by kernel_rfl) (sok_fn ⟨bvh_builder_cheapest.k0, trivial⟩) (by kernel_rfl) (fun x => by kernel_rfl) entry_run
end Go.Proofs.Pen

namespace Go.Proofs.Pen
open Go Go.Proofs
def bvh_build.L : List (Nat × Lay) := [(9000, .oblk 0 [.own TBox, .own TV, .dat .bool, .pt 1]), (9001, .oblk 1 [.own TNode, .own TI]), (0, .rf 0 0), (1, .val (.sl TI))]
def bvh_build.L2 : List (Nat × Lay) := [(9000, .oblk 0 [.own TBox, .own TV, .dat .bool, .pt 1]), (9001, .oblk 1 [.own TNode, .own TI])]
def bvh_build.ids (args : List AV) (own : List Blk) : Option (List Nat) := match args with
  | [.ref ib 0, _] => match rowAt own ib with
    | .cells [_, _, _, .ref it 0] => some [ib, it]
    | _ => none
  | _ => none
abbrev bvh_build.Fun := ((List ((Option Nat × Option Nat × Option Nat) × Option Nat × Option Nat × Option Nat) × List (Option Nat × Option Nat × Option Nat) × Bool × Unit) × (List (((Option Nat × Option Nat × Option Nat) × Option Nat × Option Nat × Option Nat) × Int × Int × Int × Int) × List Int × Unit) × (List (Int)) × Unit) → Option (Int × ((List ((Option Nat × Option Nat × Option Nat) × Option Nat × Option Nat × Option Nat) × List (Option Nat × Option Nat × Option Nat) × Bool × Unit) × (List (((Option Nat × Option Nat × Option Nat) × Option Nat × Option Nat × Option Nat) × Int × Int × Int × Int) × List Int × Unit) × Unit))
noncomputable def bvh_build.ent (h : bvh_build.Fun) : List AV → List Blk → T (AV × List Blk) := frzD isRefA (layD 2 bvh_build.L bvh_build.L2 [TI] bvh_build.ids h)
noncomputable def bvh_build.tab (h : bvh_build.Fun) : DTab := tbExt (tbExt (tbExt (tbExt tb 41 (freshD bvh_builder_cheapest.q)) 42 (freshD bvh_builder_median.q)) 38 (frzD isOslA sortI)) 24 (bvh_build.ent h)
noncomputable def bvh_build.fns (h : bvh_build.Fun) : Fns := { quiet := (ext (ext (ext Xs 37 bvh_builder_around.q) 39 bvh_builder_middles.q) 40 box_Longest.q), deep := tabD (bvh_build.tab h) noDeep }
def bvh_build.isD (g : Nat) : Bool := inL [41, 42, 25, 38, 24] g
noncomputable def bvh_build.t (h : bvh_build.Fun) (x : (List ((Option Nat × Option Nat × Option Nat) × Option Nat × Option Nat × Option Nat) × List (Option Nat × Option Nat × Option Nat) × Bool × Unit) × (List (((Option Nat × Option Nat × Option Nat) × Option Nat × Option Nat × Option Nat) × Int × Int × Int × Int) × List Int × Unit) × (List (Int)) × Unit) : T (Int × (List ((Option Nat × Option Nat × Option Nat) × Option Nat × Option Nat × Option Nat) × List (Option Nat × Option Nat × Option Nat) × Bool × Unit) × (List (((Option Nat × Option Nat × Option Nat) × Option Nat × Option Nat × Option Nat) × Int × Int × Int × Int) × List Int × Unit) × Unit) := T.opt (bvh_builder_around ((List.take x.1.1.length x.1.1, List.take x.1.2.1.length x.1.2.1, x.1.2.2.1, List.take x.2.1.1.length x.2.1.1, List.take x.2.1.2.1.length x.2.1.2.1), x.2.2.1)) fun y => T.ite (decide ((x.2.1.1.length + (1 : Nat)) * nat_lit 80 ≤ most)) (T.ite (decide ((↑(List.length x.2.2.1) : Int) ≤ (4 : Int))) (T.ite (decide (List.length x.2.2.1 * (8 : Nat) ≤ most)) (T.ite (decide (List.length x.2.2.1 ≤ (1000000 : Nat))) (T.ite (decide ((x.2.1.2.1.length + (List.take (List.length x.2.2.1) (insS (fun a b => decide (a < b)) (List.take (List.length x.2.2.1) (intsOf rfl x.2.2.1)) ++ List.drop (List.length x.2.2.1) (intsOf rfl x.2.2.1))).length) * nat_lit 8 ≤ most)) (T.ite (decide ((0 : Int) ≤ (↑x.2.1.1.length : Int)) && decide ((↑x.2.1.1.length : Int) < (↑(x.2.1.1.length + (1 : Nat)) : Int))) (T.opt (List.take x.2.1.1.length x.2.1.1 ++ [(y, (0 : Int), (0 : Int), (0 : Int), (0 : Int))])[(0 : Nat) + (↑x.2.1.1.length : Int).toNat]? fun y_1 => T.ret ((↑x.2.1.1.length : Int), (List.take x.1.1.length x.1.1, List.take x.1.2.1.length x.1.2.1, x.1.2.2.1, ()), (List.take (x.2.1.1.length + (1 : Nat)) ((List.take x.2.1.1.length x.2.1.1 ++ [(y, (0 : Int), (0 : Int), (0 : Int), (0 : Int))]).set ((0 : Nat) + (↑x.2.1.1.length : Int).toNat) (y, (0 : Int), (0 : Int), (↑x.2.1.2.1.length : Int), (↑(x.2.1.2.1.length + (List.take (List.length x.2.2.1) (insS (fun a b => decide (a < b)) (List.take (List.length x.2.2.1) (intsOf rfl x.2.2.1)) ++ List.drop (List.length x.2.2.1) (intsOf rfl x.2.2.1))).length) : Int))), List.take (x.2.1.2.1.length + (List.take (List.length x.2.2.1) (insS (fun a b => decide (a < b)) (List.take (List.length x.2.2.1) (intsOf rfl x.2.2.1)) ++ List.drop (List.length x.2.2.1) (intsOf rfl x.2.2.1))).length) (List.take x.2.1.2.1.length x.2.1.2.1 ++ List.take (List.length x.2.2.1) (insS (fun a b => decide (a < b)) (List.take (List.length x.2.2.1) (intsOf rfl x.2.2.1)) ++ List.drop (List.length x.2.2.1) (intsOf rfl x.2.2.1))), ()), ())) T.fail) T.fail) T.fail) T.fail) (T.opt (bvh_builder_middles ((List.take x.1.1.length x.1.1, List.take x.1.2.1.length x.1.2.1, x.1.2.2.1, List.take (x.2.1.1.length + (1 : Nat)) (List.take x.2.1.1.length x.2.1.1 ++ [(y, (0 : Int), (0 : Int), (0 : Int), (0 : Int))]), List.take x.2.1.2.1.length x.2.1.2.1), x.2.2.1)) fun y_1 => T.opt (box_Longest y_1) fun y_2 => T.ite x.1.2.2.1 (T.opt (bvh_builder_cheapest ((List.take x.1.1.length x.1.1, List.take x.1.2.1.length x.1.2.1, x.1.2.2.1, List.take (x.2.1.1.length + (1 : Nat)) (List.take x.2.1.1.length x.2.1.1 ++ [(y, (0 : Int), (0 : Int), (0 : Int), (0 : Int))]), List.take x.2.1.2.1.length x.2.1.2.1), x.2.2.1, y_2, y_1)) fun y_3 => T.opt (h ((List.take x.1.1.length x.1.1, List.take x.1.2.1.length x.1.2.1, x.1.2.2.1, ()), (List.take (x.2.1.1.length + (1 : Nat)) (List.take x.2.1.1.length x.2.1.1 ++ [(y, (0 : Int), (0 : Int), (0 : Int), (0 : Int))]), List.take x.2.1.2.1.length x.2.1.2.1, ()), y_3.fst, ())) fun y_4 => T.opt (h ((List.take y_4.snd.fst.fst.length y_4.snd.fst.fst, List.take y_4.snd.fst.snd.fst.length y_4.snd.fst.snd.fst, y_4.snd.fst.snd.snd.fst, ()), (List.take y_4.snd.snd.fst.fst.length y_4.snd.snd.fst.fst, List.take y_4.snd.snd.fst.snd.fst.length y_4.snd.snd.fst.snd.fst, ()), y_3.snd, ())) fun y_5 => T.ite (decide ((0 : Int) ≤ (↑x.2.1.1.length : Int)) && decide ((↑x.2.1.1.length : Int) < (↑y_5.snd.snd.fst.fst.length : Int))) (T.opt y_5.snd.snd.fst.fst[(0 : Nat) + (↑x.2.1.1.length : Int).toNat]? fun y_6 => T.ret ((↑x.2.1.1.length : Int), (List.take y_5.snd.fst.fst.length y_5.snd.fst.fst, List.take y_5.snd.fst.snd.fst.length y_5.snd.fst.snd.fst, y_5.snd.fst.snd.snd.fst, ()), (List.take y_5.snd.snd.fst.fst.length (y_5.snd.snd.fst.fst.set ((0 : Nat) + (↑x.2.1.1.length : Int).toNat) (y, y_4.fst, y_5.fst, (0 : Int), (0 : Int))), List.take y_5.snd.snd.fst.snd.fst.length y_5.snd.snd.fst.snd.fst, ()), ())) T.fail) (T.opt (bvh_builder_median ((List.take x.1.1.length x.1.1, List.take x.1.2.1.length x.1.2.1, x.1.2.2.1, List.take (x.2.1.1.length + (1 : Nat)) (List.take x.2.1.1.length x.2.1.1 ++ [(y, (0 : Int), (0 : Int), (0 : Int), (0 : Int))]), List.take x.2.1.2.1.length x.2.1.2.1), x.2.2.1, y_2)) fun y_3 => T.opt (h ((List.take x.1.1.length x.1.1, List.take x.1.2.1.length x.1.2.1, x.1.2.2.1, ()), (List.take (x.2.1.1.length + (1 : Nat)) (List.take x.2.1.1.length x.2.1.1 ++ [(y, (0 : Int), (0 : Int), (0 : Int), (0 : Int))]), List.take x.2.1.2.1.length x.2.1.2.1, ()), y_3.fst, ())) fun y_4 => T.opt (h ((List.take y_4.snd.fst.fst.length y_4.snd.fst.fst, List.take y_4.snd.fst.snd.fst.length y_4.snd.fst.snd.fst, y_4.snd.fst.snd.snd.fst, ()), (List.take y_4.snd.snd.fst.fst.length y_4.snd.snd.fst.fst, List.take y_4.snd.snd.fst.snd.fst.length y_4.snd.snd.fst.snd.fst, ()), y_3.snd, ())) fun y_5 => T.ite (decide ((0 : Int) ≤ (↑x.2.1.1.length : Int)) && decide ((↑x.2.1.1.length : Int) < (↑y_5.snd.snd.fst.fst.length : Int))) (T.opt y_5.snd.snd.fst.fst[(0 : Nat) + (↑x.2.1.1.length : Int).toNat]? fun y_6 => T.ret ((↑x.2.1.1.length : Int), (List.take y_5.snd.fst.fst.length y_5.snd.fst.fst, List.take y_5.snd.fst.snd.fst.length y_5.snd.fst.snd.fst, y_5.snd.fst.snd.snd.fst, ()), (List.take y_5.snd.snd.fst.fst.length (y_5.snd.snd.fst.fst.set ((0 : Nat) + (↑x.2.1.1.length : Int).toNat) (y, y_4.fst, y_5.fst, (0 : Int), (0 : Int))), List.take y_5.snd.snd.fst.snd.fst.length y_5.snd.snd.fst.snd.fst, ()), ())) T.fail))) T.fail
noncomputable def bvh_build.h : Nat → bvh_build.Fun
  | 0, _ => none
  | d + 1, x => (bvh_build.t (bvh_build.h d) x).run
theorem bvh_build.step (h : bvh_build.Fun) (x : lden bvh_build.L) : bodyT Try.prog (bvh_build.fns h) bvh_build.isD noS Try.f24 bvh_build.L bvh_build.L2 2 [TI] x = bvh_build.t h x := by kernel_rfl
theorem bvh_build.none_ok : DentOK Try.prog 24 (bvh_build.ent fun _ => none) := frzD_ok fun args own v own' h => by
  exfalso
  unfold layD at h
  split at h
  · exact run_fail h
  · split at h
    · exact run_fail h
    · split at h
      · exact run_fail h
      · obtain ⟨_, h1, _⟩ := run_opt h; cases h1
theorem bvh_build.tabOk {h : bvh_build.Fun} (hh : DentOK Try.prog 24 (bvh_build.ent h)) : TBOK Try.prog (bvh_build.tab h) :=
  tb_ext (tb_ext (tb_ext (tb_ext tbOk (fresh_deep bvh_builder_cheapest.okF)) (fresh_deep bvh_builder_median.okF)) (frzD_ok (sortI_ok (by kernel_rfl) sorts_int))) hh
theorem bvh_build.next {h : bvh_build.Fun} (hh : DentOK Try.prog 24 (bvh_build.ent h)) : DentOK Try.prog 24 (bvh_build.ent fun x => (bvh_build.t h x).run) :=
  frzD_ok (layD_ok (F := bvh_build.fns h) (D := bvh_build.isD) (S := noS) mixed (quiet_ext (quiet_ext (quiet_ext Xok bvh_builder_around.ok) bvh_builder_middles.ok) box_Longest.ok) (tabD_ok (bvh_build.tabOk hh) (deep_none _)) Try.func24 (by kernel_rfl) (nt := 2) (by kernel_rfl) (by kernel_rfl) rfl rfl (fun n c _ => sok_none _ n c) (by kernel_rfl) (fun x => by kernel_rfl) (fun args own s0 hs => by
    unfold bvh_build.ids at hs
    split at hs
    · rfl
    · cases hs) (fun x y hy => by rw [bvh_build.step h x]; exact hy))
theorem bvh_build.ok : ∀ d, DentOK Try.prog 24 (bvh_build.ent (bvh_build.h d))
  | 0 => bvh_build.none_ok
  | d + 1 => bvh_build.next (bvh_build.ok d)
end Go.Proofs.Pen

namespace Go.Proofs.Pen
open Go Go.Proofs
def bvh_may.L2 : List (Nat × Lay) := [(2, .val .bool), (4, .box TV), (13, .val TTri), (14, .val TI), (17, .val TI)]
noncomputable def bvh_may.t2 (x : Bool × (Option Nat × Option Nat × Option Nat) × ((Option Nat × Option Nat × Option Nat) × (Option Nat × Option Nat × Option Nat) × Option Nat × Option Nat × Option Nat) × Int × Int × Unit) : T (Ex × Bool × (Option Nat × Option Nat × Option Nat) × ((Option Nat × Option Nat × Option Nat) × (Option Nat × Option Nat × Option Nat) × Option Nat × Option Nat × Option Nat) × Int × Int × Unit) := T.ite (decide (x.2.2.2.2.1 < (3 : Int))) (T.opt (vec_Part (x.2.1, x.2.2.2.2.1)) fun y => T.ite (!((ford y (some (13920626448202203136 : Nat)) == some Ordering.gt || ford y (some (13920626448202203136 : Nat)) == some Ordering.eq) && (ford y (some (4697254411347427328 : Nat)) == some Ordering.lt || ford y (some (4697254411347427328 : Nat)) == some Ordering.eq))) (T.ret (Ex.ret, false, x.2.1, x.2.2.1, x.2.2.2.1, x.2.2.2.2.1, ())) (T.ret (Ex.normal, x.1, x.2.1, x.2.2.1, x.2.2.2.1, W (x.2.2.2.2.1 + (1 : Int)), ()))) (T.ret (Ex.exit (2 : Nat), x.1, x.2.1, x.2.2.1, x.2.2.2.1, x.2.2.2.2.1, ()))
noncomputable def bvh_may.l2 (x : Bool × (Option Nat × Option Nat × Option Nat) × ((Option Nat × Option Nat × Option Nat) × (Option Nat × Option Nat × Option Nat) × Option Nat × Option Nat × Option Nat) × Int × Int × Unit) : Option (Ex × Bool × (Option Nat × Option Nat × Option Nat) × ((Option Nat × Option Nat × Option Nat) × (Option Nat × Option Nat × Option Nat) × Option Nat × Option Nat × Option Nat) × Int × Int × Unit) := (iterT bvh_may.t2 rounds x).run
theorem bvh_may.k2 : bodies 2 (lp Try.f21 [0]) = [.loop (loopIn 2 (lp Try.f21 [0]))] ∧ WP Try.prog 0 (.block 2 (.loop (loopIn 2 (lp Try.f21 [0])))) (loopS bvh_may.L2 32 2 [.exit 2, .ret] bvh_may.l2) :=
  loop_tree (L := bvh_may.L2) (F := ({ quiet := (ext Xs 32 vec_Part.q), deep := noDeep } : Fns)) (D := D0) (tab := []) (t := bvh_may.t2) mixed (quiet_ext Xok vec_Part.ok) (deep_none _) (fun _ => rfl) (by kernel_rfl) (by kernel_rfl) trivial (fun x => by kernel_rfl)
def bvh_may.L0 : List (Nat × Lay) := [(2, .val .bool), (13, .val TTri), (14, .val TI)]
noncomputable def bvh_may.t0 (x : Bool × ((Option Nat × Option Nat × Option Nat) × (Option Nat × Option Nat × Option Nat) × Option Nat × Option Nat × Option Nat) × Int × Unit) : T (Ex × Bool × ((Option Nat × Option Nat × Option Nat) × (Option Nat × Option Nat × Option Nat) × Option Nat × Option Nat × Option Nat) × Int × Unit) := T.ite (decide (x.2.2.1 < (3 : Int))) (T.ite (x.2.2.1 == (↑(0 : Nat) : Int)) (T.opt (bvh_may.l2 (x.1, x.2.1.1, x.2.1, x.2.2.1, (0 : Int), ())) fun y => T.ite (exEq y.1 (Ex.exit (2 : Nat))) (T.ret (Ex.normal, y.2.1, y.2.2.2.1, W (y.2.2.2.2.1 + (1 : Int)), ())) (T.ite (exEq y.1 Ex.ret) (T.ret (Ex.ret, y.2.1, y.2.2.2.1, y.2.2.2.2.1, ())) T.fail)) (T.ite (x.2.2.1 == (↑((0 : Nat) + (1 : Nat)) : Int)) (T.opt (bvh_may.l2 (x.1, x.2.1.2.1, x.2.1, x.2.2.1, (0 : Int), ())) fun y => T.ite (exEq y.1 (Ex.exit (2 : Nat))) (T.ret (Ex.normal, y.2.1, y.2.2.2.1, W (y.2.2.2.2.1 + (1 : Int)), ())) (T.ite (exEq y.1 Ex.ret) (T.ret (Ex.ret, y.2.1, y.2.2.2.1, y.2.2.2.2.1, ())) T.fail)) (T.ite (x.2.2.1 == (↑((0 : Nat) + (1 : Nat) + (1 : Nat)) : Int)) (T.opt (bvh_may.l2 (x.1, x.2.1.2.2, x.2.1, x.2.2.1, (0 : Int), ())) fun y => T.ite (exEq y.1 (Ex.exit (2 : Nat))) (T.ret (Ex.normal, y.2.1, y.2.2.2.1, W (y.2.2.2.2.1 + (1 : Int)), ())) (T.ite (exEq y.1 Ex.ret) (T.ret (Ex.ret, y.2.1, y.2.2.2.1, y.2.2.2.2.1, ())) T.fail)) T.fail))) (T.ret (Ex.exit (0 : Nat), x.1, x.2.1, x.2.2.1, ()))
noncomputable def bvh_may.l0 (x : Bool × ((Option Nat × Option Nat × Option Nat) × (Option Nat × Option Nat × Option Nat) × Option Nat × Option Nat × Option Nat) × Int × Unit) : Option (Ex × Bool × ((Option Nat × Option Nat × Option Nat) × (Option Nat × Option Nat × Option Nat) × Option Nat × Option Nat × Option Nat) × Int × Unit) := (iterT bvh_may.t0 rounds x).run
theorem bvh_may.k0 : bodies 0 (lp Try.f21 []) = [.loop (loopIn 0 (lp Try.f21 []))] ∧ WP Try.prog 0 (.block 0 (.loop (loopIn 0 (lp Try.f21 [])))) (loopS bvh_may.L0 32 0 [.exit 0, .ret] bvh_may.l0) :=
  loop_tree (L := bvh_may.L0) (F := ({ quiet := (ext Xs 32 vec_Part.q), deep := noDeep } : Fns)) (D := D0) (tab := [(2, loopS bvh_may.L2 32 2 [.exit 2, .ret] bvh_may.l2)]) (t := bvh_may.t0) mixed (quiet_ext Xok vec_Part.ok) (deep_none _) (fun _ => rfl) (by kernel_rfl) (by kernel_rfl) ⟨bvh_may.k2, trivial⟩ (fun x => by kernel_rfl)
noncomputable def bvh_may.t (x : ((Option Nat × Option Nat × Option Nat) × (Option Nat × Option Nat × Option Nat) × Option Nat × Option Nat × Option Nat)) : T (Bool) := T.opt (bvh_may.l0 (false, x, (0 : Int), ())) fun y => T.ite (exEq y.1 (Ex.exit (0 : Nat))) (T.ret true) (T.ite (exEq y.1 Ex.ret) (T.ret y.2.1) T.fail)
noncomputable def bvh_may (x : ((Option Nat × Option Nat × Option Nat) × (Option Nat × Option Nat × Option Nat) × Option Nat × Option Nat × Option Nat)) : Option (Bool) := (bvh_may.t x).run
noncomputable def bvh_may.q : List AV → T AV := entry [TTri] (outR [.bool]) fun x => .opt (bvh_may x) .ret
theorem bvh_may.ok : FnOK Try.prog 21 bvh_may.q :=
  entry_call (ps := [TTri]) (rs := [.bool]) (F := ({ quiet := (ext Xs 32 vec_Part.q), deep := noDeep } : Fns)) (D := D0) (S := tabS [(0, loopS bvh_may.L0 32 0 [.exit 0, .ret] bvh_may.l0)]) (t := bvh_may.t) mixed (quiet_ext Xok vec_Part.ok) (deep_none _) Try.func21 (by kernel_rfl) (sok_fn ⟨bvh_may.k0, trivial⟩) (by kernel_rfl) (fun x => by kernel_rfl)
end Go.Proofs.Pen

namespace Go.Proofs.Pen
open Go Go.Proofs
noncomputable def box_Of.t (x : ((Option Nat × Option Nat × Option Nat) × (Option Nat × Option Nat × Option Nat) × Option Nat × Option Nat × Option Nat)) : T (((Option Nat × Option Nat × Option Nat) × Option Nat × Option Nat × Option Nat)) := T.opt (box_Empty ()) fun y => T.opt (box_Grow (y, x.1)) fun y => T.opt (box_Grow (y, x.2.1)) fun y => T.opt (box_Grow (y, x.2.2)) fun y => T.ret y
noncomputable def box_Of (x : ((Option Nat × Option Nat × Option Nat) × (Option Nat × Option Nat × Option Nat) × Option Nat × Option Nat × Option Nat)) : Option (((Option Nat × Option Nat × Option Nat) × Option Nat × Option Nat × Option Nat)) := (box_Of.t x).run
noncomputable def box_Of.q : List AV → T AV := entry [TTri] (outR [TBox]) fun x => .opt (box_Of x) .ret
theorem box_Of.ok : FnOK Try.prog 22 box_Of.q :=
  entry_call (ps := [TTri]) (rs := [TBox]) (F := ({ quiet := (ext (ext Xs 34 box_Empty.q) 33 box_Grow.q), deep := noDeep } : Fns)) (D := D0) (S := tabS []) (t := box_Of.t) mixed (quiet_ext (quiet_ext Xok box_Empty.ok) box_Grow.ok) (deep_none _) Try.func22 (by kernel_rfl) (sok_fn trivial) (by kernel_rfl) (fun x => by kernel_rfl)
end Go.Proofs.Pen

namespace Go.Proofs.Pen
open Go Go.Proofs
noncomputable def eachAdd.t (x : (Option Nat × Option Nat × Option Nat) × (Option Nat × Option Nat × Option Nat) × Unit) : T ((Option Nat × Option Nat × Option Nat)) := T.ret (fop BinOp.add x.1.1 x.2.1.1, fop BinOp.add x.1.2.1 x.2.1.2.1, fop BinOp.add x.1.2.2 x.2.1.2.2)
noncomputable def eachAdd.q : List AV → T AV := entry [TV, TV, (.clo 48 .unit)] (outR [TV]) eachAdd.t
theorem eachAdd.ok : FnOK Try.prog 47 eachAdd.q :=
  entry_in (ps := [TV, TV, (.clo 48 .unit)]) (rs := [TV]) (F := ({ quiet := (ext (ext (ext Xs 48 vec_Add_1.q) 75 vec_Sub_1.q) 63 vec_Mul_1.q), deep := noDeep } : Fns)) (D := D0) (S := tabS []) (t := eachAdd.t) mixed (quiet_ext (quiet_ext (quiet_ext Xok vec_Add_1.ok) vec_Sub_1.ok) vec_Mul_1.ok) (deep_none _) Try.func47 (by kernel_rfl) (sok_fn trivial) (by kernel_rfl) (fun x => by kernel_rfl)
end Go.Proofs.Pen

namespace Go.Proofs.Pen
open Go Go.Proofs
noncomputable def vec_Add.t (x : (Option Nat × Option Nat × Option Nat) × (Option Nat × Option Nat × Option Nat)) : T ((Option Nat × Option Nat × Option Nat)) := T.ret (fop BinOp.add x.1.1 x.2.1, fop BinOp.add x.1.2.1 x.2.2.1, fop BinOp.add x.1.2.2 x.2.2.2)
noncomputable def vec_Add (x : (Option Nat × Option Nat × Option Nat) × (Option Nat × Option Nat × Option Nat)) : Option ((Option Nat × Option Nat × Option Nat)) := (vec_Add.t x).run
noncomputable def vec_Add.q : List AV → T AV := entry [TV, TV] (outR [TV]) fun x => .opt (vec_Add x) .ret
theorem vec_Add.ok : FnOK Try.prog 36 vec_Add.q :=
  entry_call (ps := [TV, TV]) (rs := [TV]) (F := ({ quiet := (ext Xs 47 eachAdd.q), deep := noDeep } : Fns)) (D := D0) (S := tabS []) (t := vec_Add.t) mixed (quiet_ext Xok eachAdd.ok) (deep_none _) Try.func36 (by kernel_rfl) (sok_fn trivial) (by kernel_rfl) (fun x => by kernel_rfl)
end Go.Proofs.Pen

namespace Go.Proofs.Pen
open Go Go.Proofs
noncomputable def eachMul.t (x : (Option Nat × Option Nat × Option Nat) × (Option Nat × Option Nat × Option Nat) × Unit) : T ((Option Nat × Option Nat × Option Nat)) := T.ret (fop BinOp.mul x.1.1 x.2.1.1, fop BinOp.mul x.1.2.1 x.2.1.2.1, fop BinOp.mul x.1.2.2 x.2.1.2.2)
noncomputable def eachMul.q : List AV → T AV := entry [TV, TV, (.clo 63 .unit)] (outR [TV]) eachMul.t
theorem eachMul.ok : FnOK Try.prog 47 eachMul.q :=
  entry_in (ps := [TV, TV, (.clo 63 .unit)]) (rs := [TV]) (F := ({ quiet := (ext (ext (ext Xs 48 vec_Add_1.q) 75 vec_Sub_1.q) 63 vec_Mul_1.q), deep := noDeep } : Fns)) (D := D0) (S := tabS []) (t := eachMul.t) mixed (quiet_ext (quiet_ext (quiet_ext Xok vec_Add_1.ok) vec_Sub_1.ok) vec_Mul_1.ok) (deep_none _) Try.func47 (by kernel_rfl) (sok_fn trivial) (by kernel_rfl) (fun x => by kernel_rfl)
end Go.Proofs.Pen

namespace Go.Proofs.Pen
open Go Go.Proofs
noncomputable def vec_Mul.t (x : (Option Nat × Option Nat × Option Nat) × (Option Nat × Option Nat × Option Nat)) : T ((Option Nat × Option Nat × Option Nat)) := T.ret (fop BinOp.mul x.1.1 x.2.1, fop BinOp.mul x.1.2.1 x.2.2.1, fop BinOp.mul x.1.2.2 x.2.2.2)
noncomputable def vec_Mul.q : List AV → T AV := entry [TV, TV] (outR [TV]) vec_Mul.t
theorem vec_Mul.ok : FnOK Try.prog 46 vec_Mul.q :=
  entry_in (ps := [TV, TV]) (rs := [TV]) (F := ({ quiet := (ext Xs 47 eachMul.q), deep := noDeep } : Fns)) (D := D0) (S := tabS []) (t := vec_Mul.t) mixed (quiet_ext Xok eachMul.ok) (deep_none _) Try.func46 (by kernel_rfl) (sok_fn trivial) (by kernel_rfl) (fun x => by kernel_rfl)
end Go.Proofs.Pen

namespace Go.Proofs.Pen
open Go Go.Proofs
noncomputable def vec_Scale.t (x : (Option Nat × Option Nat × Option Nat) × (Option Nat)) : T ((Option Nat × Option Nat × Option Nat)) := T.ret (fop BinOp.mul x.1.1 x.2, fop BinOp.mul x.1.2.1 x.2, fop BinOp.mul x.1.2.2 x.2)
noncomputable def vec_Scale.q : List AV → T AV := entry [TV, .flt] (outR [TV]) vec_Scale.t
theorem vec_Scale.ok : FnOK Try.prog 35 vec_Scale.q :=
  entry_in (ps := [TV, .flt]) (rs := [TV]) (F := ({ quiet := (ext (ext Xs 46 vec_Mul.q) 63 vec_Mul_1.q), deep := noDeep } : Fns)) (D := D0) (S := tabS []) (t := vec_Scale.t) mixed (quiet_ext (quiet_ext Xok vec_Mul.ok) vec_Mul_1.ok) (deep_none _) Try.func35 (by kernel_rfl) (sok_fn trivial) (by kernel_rfl) (fun x => by kernel_rfl)
end Go.Proofs.Pen

namespace Go.Proofs.Pen
open Go Go.Proofs
noncomputable def box_Mid.t (x : ((Option Nat × Option Nat × Option Nat) × Option Nat × Option Nat × Option Nat)) : T ((Option Nat × Option Nat × Option Nat)) := T.opt (vec_Add x) fun y => T.ret (fop BinOp.mul y.1 (some (4602678819172646912 : Nat)), fop BinOp.mul y.2.1 (some (4602678819172646912 : Nat)), fop BinOp.mul y.2.2 (some (4602678819172646912 : Nat)))
noncomputable def box_Mid (x : ((Option Nat × Option Nat × Option Nat) × Option Nat × Option Nat × Option Nat)) : Option ((Option Nat × Option Nat × Option Nat)) := (box_Mid.t x).run
noncomputable def box_Mid.q : List AV → T AV := entry [TBox] (outR [TV]) fun x => .opt (box_Mid x) .ret
theorem box_Mid.ok : FnOK Try.prog 23 box_Mid.q :=
  entry_call (ps := [TBox]) (rs := [TV]) (F := ({ quiet := (ext (ext (ext (ext Xs 36 vec_Add.q) 35 vec_Scale.q) 48 vec_Add_1.q) 63 vec_Mul_1.q), deep := noDeep } : Fns)) (D := D0) (S := tabS []) (t := box_Mid.t) mixed (quiet_ext (quiet_ext (quiet_ext (quiet_ext Xok vec_Add.ok) vec_Scale.ok) vec_Add_1.ok) vec_Mul_1.ok) (deep_none _) Try.func23 (by kernel_rfl) (sok_fn trivial) (by kernel_rfl) (fun x => by kernel_rfl)
end Go.Proofs.Pen

namespace Go.Proofs.Pen
open Go Go.Proofs
noncomputable def bvh_New.deeps : Deeps := { D := [24], C := [], frz := false, S := fun _ _ => noS }
theorem bvh_New.deepsOk : LoopsOK Try.prog bvh_New.deeps.S := (loops_none _)
noncomputable def bvh_New.tabl : DTab := (tbExt tb 24 (bvh_build.ent (bvh_build.h 1000)))
theorem bvh_New.tablOk : TBOK Try.prog bvh_New.tabl := (tb_ext tbOk (bvh_build.ok 1000))
def bvh_New.L0 : List (Nat × Lay) := [(16, .obx [.own TNode, .own TI]), (4, .lit .nilp), (5, .val TI), (6, .obx [.own TBox, .own TV, .dat .bool, .pt 0]), (7, .row TI), (19, .val (.sl TTri)), (20, .val TI), (21, .val TI)]
noncomputable def bvh_New.t0 (x : (List (((Option Nat × Option Nat × Option Nat) × Option Nat × Option Nat × Option Nat) × Int × Int × Int × Int) × List Int × Unit) × Int × (List ((Option Nat × Option Nat × Option Nat) × Option Nat × Option Nat × Option Nat) × List (Option Nat × Option Nat × Option Nat) × Bool × Unit) × List Int × (List ((Option Nat × Option Nat × Option Nat) × (Option Nat × Option Nat × Option Nat) × Option Nat × Option Nat × Option Nat)) × Int × Int × Unit) : T (Ex × (List (((Option Nat × Option Nat × Option Nat) × Option Nat × Option Nat × Option Nat) × Int × Int × Int × Int) × List Int × Unit) × Int × (List ((Option Nat × Option Nat × Option Nat) × Option Nat × Option Nat × Option Nat) × List (Option Nat × Option Nat × Option Nat) × Bool × Unit) × List Int × (List ((Option Nat × Option Nat × Option Nat) × (Option Nat × Option Nat × Option Nat) × Option Nat × Option Nat × Option Nat)) × Int × Int × Unit) := T.ite (decide (x.2.2.2.2.2.2.1 < x.2.2.2.2.2.1)) (T.opt (lget x.2.2.2.2.1 x.2.2.2.2.2.2.1) fun y => T.opt (bvh_may y) fun y_1 => T.ite (!y_1) (T.ret (Ex.ret, (List.take x.1.1.length x.1.1, List.take x.1.2.1.length x.1.2.1, ()), (2 : Int), (List.take x.2.2.1.1.length x.2.2.1.1, List.take x.2.2.1.2.1.length x.2.2.1.2.1, x.2.2.1.2.2.1, ()), List.take x.2.2.2.1.length x.2.2.2.1, x.2.2.2.2.1, x.2.2.2.2.2.1, x.2.2.2.2.2.2.1, ())) (T.opt (box_Of y) fun y => T.ite (decide ((x.2.2.1.1.length + (1 : Nat)) * nat_lit 48 ≤ most)) (T.opt (box_Mid y) fun y_2 => T.ite (decide ((x.2.2.1.2.1.length + (1 : Nat)) * nat_lit 24 ≤ most)) (T.ite (decide ((x.2.2.2.1.length + (1 : Nat)) * nat_lit 8 ≤ most)) (T.ret (Ex.normal, (List.take x.1.1.length x.1.1, List.take x.1.2.1.length x.1.2.1, ()), x.2.1, (List.take (x.2.2.1.1.length + (1 : Nat)) (List.take x.2.2.1.1.length x.2.2.1.1 ++ [y]), List.take (x.2.2.1.2.1.length + (1 : Nat)) (List.take x.2.2.1.2.1.length x.2.2.1.2.1 ++ [y_2]), x.2.2.1.2.2.1, ()), List.take (x.2.2.2.1.length + (1 : Nat)) (List.take x.2.2.2.1.length x.2.2.2.1 ++ [x.2.2.2.2.2.2.1]), x.2.2.2.2.1, x.2.2.2.2.2.1, W (x.2.2.2.2.2.2.1 + (1 : Int)), ())) T.fail) T.fail) T.fail)) (T.ret (Ex.exit (0 : Nat), (List.take x.1.1.length x.1.1, List.take x.1.2.1.length x.1.2.1, ()), x.2.1, (List.take x.2.2.1.1.length x.2.2.1.1, List.take x.2.2.1.2.1.length x.2.2.1.2.1, x.2.2.1.2.2.1, ()), List.take x.2.2.2.1.length x.2.2.2.1, x.2.2.2.2.1, x.2.2.2.2.2.1, x.2.2.2.2.2.2.1, ()))
noncomputable def bvh_New.l0 (x : (List (((Option Nat × Option Nat × Option Nat) × Option Nat × Option Nat × Option Nat) × Int × Int × Int × Int) × List Int × Unit) × Int × (List ((Option Nat × Option Nat × Option Nat) × Option Nat × Option Nat × Option Nat) × List (Option Nat × Option Nat × Option Nat) × Bool × Unit) × List Int × (List ((Option Nat × Option Nat × Option Nat) × (Option Nat × Option Nat × Option Nat) × Option Nat × Option Nat × Option Nat)) × Int × Int × Unit) : Option (Ex × (List (((Option Nat × Option Nat × Option Nat) × Option Nat × Option Nat × Option Nat) × Int × Int × Int × Int) × List Int × Unit) × Int × (List ((Option Nat × Option Nat × Option Nat) × Option Nat × Option Nat × Option Nat) × List (Option Nat × Option Nat × Option Nat) × Bool × Unit) × List Int × (List ((Option Nat × Option Nat × Option Nat) × (Option Nat × Option Nat × Option Nat) × Option Nat × Option Nat × Option Nat)) × Int × Int × Unit) := (iterT bvh_New.t0 rounds x).run
theorem bvh_New.k0 : bodies 0 (lp Try.f8 []) = [.loop (loopIn 0 (lp Try.f8 []))] ∧ WP Try.prog 0 (.block 0 (.loop (loopIn 0 (lp Try.f8 [])))) (loopS bvh_New.L0 64 0 [.exit 0, .ret] bvh_New.l0) :=
  loop_tree (L := bvh_New.L0) (F := (dpT Try.prog (ext (ext (ext (ext (ext (ext (ext (ext Xs 21 bvh_may.q) 22 box_Of.q) 23 box_Mid.q) 48 vec_Add_1.q) 54 bvh_builder_median_1.q) 56 bvh_builder_median_2.q) 63 vec_Mul_1.q) 75 vec_Sub_1.q) bvh_New.deeps bvh_New.tabl 100 8)) (D := (inL bvh_New.deeps.D)) (tab := []) (t := bvh_New.t0) mixed (dpT_ok mixed (quiet_ext (quiet_ext (quiet_ext (quiet_ext (quiet_ext (quiet_ext (quiet_ext (quiet_ext Xok bvh_may.ok) box_Of.ok) box_Mid.ok) vec_Add_1.ok) bvh_builder_median_1.ok) bvh_builder_median_2.ok) vec_Mul_1.ok) vec_Sub_1.ok) bvh_New.deepsOk bvh_New.tablOk 100 8).1 (dpT_ok mixed (quiet_ext (quiet_ext (quiet_ext (quiet_ext (quiet_ext (quiet_ext (quiet_ext (quiet_ext Xok bvh_may.ok) box_Of.ok) box_Mid.ok) vec_Add_1.ok) bvh_builder_median_1.ok) bvh_builder_median_2.ok) vec_Mul_1.ok) vec_Sub_1.ok) bvh_New.deepsOk bvh_New.tablOk 100 8).2 (fun _ => rfl) (by kernel_rfl) (by kernel_rfl) trivial (fun x => by kernel_rfl)
noncomputable def bvh_New.t (x : (List ((Option Nat × Option Nat × Option Nat) × (Option Nat × Option Nat × Option Nat) × Option Nat × Option Nat × Option Nat)) × Bool) : T (Option ((List (((Option Nat × Option Nat × Option Nat) × Option Nat × Option Nat × Option Nat) × Int × Int × Int × Int)) × List (Int)) × Int) := T.ite (decide ((↑(List.length x.1) : Int) > (512 : Int))) (T.ret (none, (4 : Int))) (T.opt (bvh_New.l0 (([], [], ()), (0 : Int), ([], [], x.2, ()), [], x.1, (↑(List.length x.1) : Int), (0 : Int), ())) fun y => T.ite (exEq y.1 (Ex.exit (0 : Nat))) (T.opt (bvh_build.h (1000 : Nat) ((List.take y.2.2.2.1.1.length y.2.2.2.1.1, List.take y.2.2.2.1.2.1.length y.2.2.2.1.2.1, y.2.2.2.1.2.2.1, ()), (List.take y.2.1.1.length y.2.1.1, List.take y.2.1.2.1.length y.2.1.2.1, ()), List.take y.2.2.2.2.1.length y.2.2.2.2.1, ())) fun y => T.ret (some (List.take y.2.2.1.1.length y.2.2.1.1, List.take y.2.2.1.2.1.length y.2.2.1.2.1), (0 : Int))) (T.ite (exEq y.1 Ex.ret) (T.ret (none, y.2.2.1)) T.fail))
noncomputable def bvh_New (x : (List ((Option Nat × Option Nat × Option Nat) × (Option Nat × Option Nat × Option Nat) × Option Nat × Option Nat × Option Nat)) × Bool) : Option (Option ((List (((Option Nat × Option Nat × Option Nat) × Option Nat × Option Nat × Option Nat) × Int × Int × Int × Int)) × List (Int)) × Int) := (bvh_New.t x).run
noncomputable def bvh_New.q : List AV → T AV := entryNP [(.sl TTri), .bool] TTree .i64 bvh_New
theorem bvh_New.ok : FnOK Try.prog 8 bvh_New.q :=
  entry_np (ps := [(.sl TTri), .bool]) (tt := TTree) (kk := .i64) (F := (dpT Try.prog (ext (ext (ext (ext (ext (ext (ext (ext Xs 21 bvh_may.q) 22 box_Of.q) 23 box_Mid.q) 48 vec_Add_1.q) 54 bvh_builder_median_1.q) 56 bvh_builder_median_2.q) 63 vec_Mul_1.q) 75 vec_Sub_1.q) bvh_New.deeps bvh_New.tabl 100 8)) (D := (inL bvh_New.deeps.D)) (S := tabS [(0, loopS bvh_New.L0 64 0 [.exit 0, .ret] bvh_New.l0)]) (t := bvh_New.t) mixed (dpT_ok mixed (quiet_ext (quiet_ext (quiet_ext (quiet_ext (quiet_ext (quiet_ext (quiet_ext (quiet_ext Xok bvh_may.ok) box_Of.ok) box_Mid.ok) vec_Add_1.ok) bvh_builder_median_1.ok) bvh_builder_median_2.ok) vec_Mul_1.ok) vec_Sub_1.ok) bvh_New.deepsOk bvh_New.tablOk 100 8).1 (dpT_ok mixed (quiet_ext (quiet_ext (quiet_ext (quiet_ext (quiet_ext (quiet_ext (quiet_ext (quiet_ext Xok bvh_may.ok) box_Of.ok) box_Mid.ok) vec_Add_1.ok) bvh_builder_median_1.ok) bvh_builder_median_2.ok) vec_Mul_1.ok) vec_Sub_1.ok) bvh_New.deepsOk bvh_New.tablOk 100 8).2 Try.func8 (by kernel_rfl) (sok_fn ⟨bvh_New.k0, trivial⟩) (by kernel_rfl) (fun x => by kernel_rfl)
end Go.Proofs.Pen

namespace Go.Proofs.Pen
open Go Go.Proofs
noncomputable def law12_few.t (x : (List ((Option Nat × Option Nat × Option Nat) × (Option Nat × Option Nat × Option Nat) × Option Nat × Option Nat × Option Nat)) × Int) : T ((List ((Option Nat × Option Nat × Option Nat) × (Option Nat × Option Nat × Option Nat) × Option Nat × Option Nat × Option Nat))) := T.ite (decide ((↑(List.length x.1) : Int) > x.2)) (T.ite (decide ((0 : Int) ≤ (0 : Int)) && decide ((0 : Int) ≤ x.2) && decide (x.2 ≤ (↑(List.length x.1) : Int))) (T.ret (List.take (Int.toNat x.2 - Int.toNat (0 : Int)) (List.drop (Int.toNat (0 : Int)) x.1))) T.fail) (T.ret x.1)
noncomputable def law12_few (x : (List ((Option Nat × Option Nat × Option Nat) × (Option Nat × Option Nat × Option Nat) × Option Nat × Option Nat × Option Nat)) × Int) : Option ((List ((Option Nat × Option Nat × Option Nat) × (Option Nat × Option Nat × Option Nat) × Option Nat × Option Nat × Option Nat))) := (law12_few.t x).run
noncomputable def law12_few.q : List AV → T AV := entry [(.sl TTri), TI] (outR [(.sl TTri)]) fun x => .opt (law12_few x) .ret
theorem law12_few.ok : FnOK Try.prog 5 law12_few.q :=
  entry_call (ps := [(.sl TTri), TI]) (rs := [(.sl TTri)]) (F := ({ quiet := Xs, deep := noDeep } : Fns)) (D := D0) (S := tabS []) (t := law12_few.t) mixed Xok (deep_none _) Try.func5 (by kernel_rfl) (sok_fn trivial) (by kernel_rfl) (fun x => by kernel_rfl)
end Go.Proofs.Pen

namespace Go.Proofs.Pen
open Go Go.Proofs
def ref12_May.L0 : List (Nat × Lay) := [(2, .val .bool), (3, .row TV), (4, .val TI)]
noncomputable def ref12_May.t0 (x : Bool × List (Option Nat × Option Nat × Option Nat) × Int × Unit) : T (Ex × Bool × List (Option Nat × Option Nat × Option Nat) × Int × Unit) := T.ite (decide (x.2.2.1 < (3 : Int))) (T.ite (decide ((0 : Int) ≤ x.2.2.1) && decide (x.2.2.1 < (↑x.2.1.length : Int))) (T.opt x.2.1[(0 : Nat) + Int.toNat x.2.2.1]? fun y => T.ite (ford y.1 (some (13920626448202203136 : Nat)) == some Ordering.gt || ford y.1 (some (13920626448202203136 : Nat)) == some Ordering.eq) (T.ite (decide ((0 : Int) ≤ x.2.2.1) && decide (x.2.2.1 < (↑x.2.1.length : Int))) (T.opt x.2.1[(0 : Nat) + Int.toNat x.2.2.1]? fun y => T.ite (ford y.1 (some (4697254411347427328 : Nat)) == some Ordering.lt || ford y.1 (some (4697254411347427328 : Nat)) == some Ordering.eq) (T.ite (decide ((0 : Int) ≤ x.2.2.1) && decide (x.2.2.1 < (↑x.2.1.length : Int))) (T.opt x.2.1[(0 : Nat) + Int.toNat x.2.2.1]? fun y => T.ite (ford y.2.1 (some (13920626448202203136 : Nat)) == some Ordering.gt || ford y.2.1 (some (13920626448202203136 : Nat)) == some Ordering.eq) (T.ite (decide ((0 : Int) ≤ x.2.2.1) && decide (x.2.2.1 < (↑x.2.1.length : Int))) (T.opt x.2.1[(0 : Nat) + Int.toNat x.2.2.1]? fun y => T.ite (ford y.2.1 (some (4697254411347427328 : Nat)) == some Ordering.lt || ford y.2.1 (some (4697254411347427328 : Nat)) == some Ordering.eq) (T.ite (decide ((0 : Int) ≤ x.2.2.1) && decide (x.2.2.1 < (↑x.2.1.length : Int))) (T.opt x.2.1[(0 : Nat) + Int.toNat x.2.2.1]? fun y => T.ite (ford y.2.2 (some (13920626448202203136 : Nat)) == some Ordering.gt || ford y.2.2 (some (13920626448202203136 : Nat)) == some Ordering.eq) (T.ite (decide ((0 : Int) ≤ x.2.2.1) && decide (x.2.2.1 < (↑x.2.1.length : Int))) (T.opt x.2.1[(0 : Nat) + Int.toNat x.2.2.1]? fun y => T.ite (!(ford y.2.2 (some (4697254411347427328 : Nat)) == some Ordering.lt || ford y.2.2 (some (4697254411347427328 : Nat)) == some Ordering.eq)) (T.ret (Ex.ret, false, List.take x.2.1.length x.2.1, x.2.2.1, ())) (T.ret (Ex.normal, x.1, List.take x.2.1.length x.2.1, W (x.2.2.1 + (1 : Int)), ()))) T.fail) (T.ret (Ex.ret, false, List.take x.2.1.length x.2.1, x.2.2.1, ()))) T.fail) (T.ret (Ex.ret, false, List.take x.2.1.length x.2.1, x.2.2.1, ()))) T.fail) (T.ret (Ex.ret, false, List.take x.2.1.length x.2.1, x.2.2.1, ()))) T.fail) (T.ret (Ex.ret, false, List.take x.2.1.length x.2.1, x.2.2.1, ()))) T.fail) (T.ret (Ex.ret, false, List.take x.2.1.length x.2.1, x.2.2.1, ()))) T.fail) (T.ret (Ex.exit (0 : Nat), x.1, List.take x.2.1.length x.2.1, x.2.2.1, ()))
noncomputable def ref12_May.l0 (x : Bool × List (Option Nat × Option Nat × Option Nat) × Int × Unit) : Option (Ex × Bool × List (Option Nat × Option Nat × Option Nat) × Int × Unit) := (iterT ref12_May.t0 rounds x).run
theorem ref12_May.k0 : bodies 0 (lp Try.f6 []) = [.loop (loopIn 0 (lp Try.f6 []))] ∧ WP Try.prog 0 (.block 0 (.loop (loopIn 0 (lp Try.f6 [])))) (loopS ref12_May.L0 63 0 [.exit 0, .ret] ref12_May.l0) :=
  loop_tree (L := ref12_May.L0) (F := ({ quiet := Xs, deep := noDeep } : Fns)) (D := D0) (tab := []) (t := ref12_May.t0) mixed Xok (deep_none _) (fun _ => rfl) (by kernel_rfl) (by kernel_rfl) trivial (fun x => by kernel_rfl)
noncomputable def ref12_May.t (x : ((Option Nat × Option Nat × Option Nat) × (Option Nat × Option Nat × Option Nat) × Option Nat × Option Nat × Option Nat)) : T (Bool) := T.opt (ref12_May.l0 (false, List.take (3 : Nat) [x.1, x.2.1, x.2.2], (0 : Int), ())) fun y => T.ite (exEq y.1 (Ex.exit (0 : Nat))) (T.ret true) (T.ite (exEq y.1 Ex.ret) (T.ret y.2.1) T.fail)
noncomputable def ref12_May (x : ((Option Nat × Option Nat × Option Nat) × (Option Nat × Option Nat × Option Nat) × Option Nat × Option Nat × Option Nat)) : Option (Bool) := (ref12_May.t x).run
noncomputable def ref12_May.q : List AV → T AV := entry [TTri] (outR [.bool]) fun x => .opt (ref12_May x) .ret
theorem ref12_May.ok : FnOK Try.prog 6 ref12_May.q :=
  entry_call (ps := [TTri]) (rs := [.bool]) (F := ({ quiet := Xs, deep := noDeep } : Fns)) (D := D0) (S := tabS [(0, loopS ref12_May.L0 63 0 [.exit 0, .ret] ref12_May.l0)]) (t := ref12_May.t) mixed Xok (deep_none _) Try.func6 (by kernel_rfl) (sok_fn ⟨ref12_May.k0, trivial⟩) (by kernel_rfl) (fun x => by kernel_rfl)
end Go.Proofs.Pen

namespace Go.Proofs.Pen
open Go Go.Proofs
noncomputable def bvh_Tree_Nodes.deeps : Deeps := { D := [26], C := [], frz := false, S := fun _ _ => noS }
theorem bvh_Tree_Nodes.deepsOk : LoopsOK Try.prog bvh_Tree_Nodes.deeps.S := (loops_none _)
noncomputable def bvh_Tree_Nodes.t (x : ((List (((Option Nat × Option Nat × Option Nat) × Option Nat × Option Nat × Option Nat) × Int × Int × Int × Int)) × List (Int))) : T ((List (((Option Nat × Option Nat × Option Nat) × Option Nat × Option Nat × Option Nat) × Int × Int × Int × Int))) := T.ite (decide (List.length x.1 * (80 : Nat) ≤ most)) (T.ret (List.take (List.length x.1) x.1)) T.fail
noncomputable def bvh_Tree_Nodes (x : ((List (((Option Nat × Option Nat × Option Nat) × Option Nat × Option Nat × Option Nat) × Int × Int × Int × Int)) × List (Int))) : Option ((List (((Option Nat × Option Nat × Option Nat) × Option Nat × Option Nat × Option Nat) × Int × Int × Int × Int))) := (bvh_Tree_Nodes.t x).run
noncomputable def bvh_Tree_Nodes.q : List AV → T AV := entry [(.ptr TTree)] (outR [(.sl TNode)]) fun x => .opt (bvh_Tree_Nodes x) .ret
theorem bvh_Tree_Nodes.ok : FnOK Try.prog 13 bvh_Tree_Nodes.q :=
  entry_call (ps := [(.ptr TTree)]) (rs := [(.sl TNode)]) (F := (dpT Try.prog Xs bvh_Tree_Nodes.deeps tb 100 8)) (D := (inL bvh_Tree_Nodes.deeps.D)) (S := tabS []) (t := bvh_Tree_Nodes.t) mixed (dpT_ok mixed Xok bvh_Tree_Nodes.deepsOk tbOk 100 8).1 (dpT_ok mixed Xok bvh_Tree_Nodes.deepsOk tbOk 100 8).2 Try.func13 (by kernel_rfl) (sok_fn trivial) (by kernel_rfl) (fun x => by kernel_rfl)
end Go.Proofs.Pen

namespace Go.Proofs.Pen
open Go Go.Proofs
noncomputable def bvh_Tree_Order.deeps : Deeps := { D := [25], C := [], frz := false, S := fun _ _ => noS }
theorem bvh_Tree_Order.deepsOk : LoopsOK Try.prog bvh_Tree_Order.deeps.S := (loops_none _)
noncomputable def bvh_Tree_Order.t (x : ((List (((Option Nat × Option Nat × Option Nat) × Option Nat × Option Nat × Option Nat) × Int × Int × Int × Int)) × List (Int))) : T ((List (Int))) := T.ite (decide (List.length x.2 * (8 : Nat) ≤ most)) (T.ret (List.take (List.length x.2) x.2)) T.fail
noncomputable def bvh_Tree_Order (x : ((List (((Option Nat × Option Nat × Option Nat) × Option Nat × Option Nat × Option Nat) × Int × Int × Int × Int)) × List (Int))) : Option ((List (Int))) := (bvh_Tree_Order.t x).run
noncomputable def bvh_Tree_Order.q : List AV → T AV := entry [(.ptr TTree)] (outR [(.sl TI)]) fun x => .opt (bvh_Tree_Order x) .ret
theorem bvh_Tree_Order.ok : FnOK Try.prog 9 bvh_Tree_Order.q :=
  entry_call (ps := [(.ptr TTree)]) (rs := [(.sl TI)]) (F := (dpT Try.prog Xs bvh_Tree_Order.deeps tb 100 8)) (D := (inL bvh_Tree_Order.deeps.D)) (S := tabS []) (t := bvh_Tree_Order.t) mixed (dpT_ok mixed Xok bvh_Tree_Order.deepsOk tbOk 100 8).1 (dpT_ok mixed Xok bvh_Tree_Order.deepsOk tbOk 100 8).2 Try.func9 (by kernel_rfl) (sok_fn trivial) (by kernel_rfl) (fun x => by kernel_rfl)
end Go.Proofs.Pen

namespace Go.Proofs.Pen
open Go Go.Proofs
noncomputable def bvh_Tree_Node.t (x : ((List (((Option Nat × Option Nat × Option Nat) × Option Nat × Option Nat × Option Nat) × Int × Int × Int × Int)) × List (Int)) × Int) : T ((((Option Nat × Option Nat × Option Nat) × Option Nat × Option Nat × Option Nat) × Int × Int × Int × Int) × Bool) := T.ite (decide (x.2 < (0 : Int))) (T.ret ((((some (0 : Nat), some (0 : Nat), some (0 : Nat)), some (0 : Nat), some (0 : Nat), some (0 : Nat)), (0 : Int), (0 : Int), (0 : Int), (0 : Int)), false)) (T.ite (decide (x.2 ≥ (↑(List.length x.1.1) : Int))) (T.ret ((((some (0 : Nat), some (0 : Nat), some (0 : Nat)), some (0 : Nat), some (0 : Nat), some (0 : Nat)), (0 : Int), (0 : Int), (0 : Int), (0 : Int)), false)) (T.opt (lget x.1.1 x.2) fun y => T.ret (y, true)))
noncomputable def bvh_Tree_Node (x : ((List (((Option Nat × Option Nat × Option Nat) × Option Nat × Option Nat × Option Nat) × Int × Int × Int × Int)) × List (Int)) × Int) : Option ((((Option Nat × Option Nat × Option Nat) × Option Nat × Option Nat × Option Nat) × Int × Int × Int × Int) × Bool) := (bvh_Tree_Node.t x).run
noncomputable def bvh_Tree_Node.q : List AV → T AV := entry [(.ptr TTree), TI] (outR [TNode, .bool]) fun x => .opt (bvh_Tree_Node x) .ret
theorem bvh_Tree_Node.ok : FnOK Try.prog 19 bvh_Tree_Node.q :=
  entry_call (ps := [(.ptr TTree), TI]) (rs := [TNode, .bool]) (F := ({ quiet := Xs, deep := noDeep } : Fns)) (D := D0) (S := tabS []) (t := bvh_Tree_Node.t) mixed Xok (deep_none _) Try.func19 (by kernel_rfl) (sok_fn trivial) (by kernel_rfl) (fun x => by kernel_rfl)
end Go.Proofs.Pen

namespace Go.Proofs.Pen
open Go Go.Proofs
abbrev bvh_Tree_deep.Fun := (((List (((Option Nat × Option Nat × Option Nat) × Option Nat × Option Nat × Option Nat) × Int × Int × Int × Int)) × List (Int)) × Int) → Option (Int)
noncomputable def bvh_Tree_deep.qh (h : bvh_Tree_deep.Fun) : List AV → T AV := entry [(.ptr TTree), TI] (outR [TI]) fun x => .opt (h x) .ret
noncomputable def bvh_Tree_deep.fns (h : bvh_Tree_deep.Fun) : Fns := { quiet := (ext (ext Xs 19 bvh_Tree_Node.q) 31 (bvh_Tree_deep.qh h)), deep := noDeep }
noncomputable def bvh_Tree_deep.t (h : bvh_Tree_deep.Fun) (x : ((List (((Option Nat × Option Nat × Option Nat) × Option Nat × Option Nat × Option Nat) × Int × Int × Int × Int)) × List (Int)) × Int) : T (Int) := T.opt (bvh_Tree_Node x) fun y => T.ite (!y.2) (T.ret (0 : Int)) (T.ite (y.1.2.1 == (0 : Int)) (T.ret (1 : Int)) (T.opt (h (x.1, y.1.2.1)) fun y_1 => T.opt (h (x.1, y.1.2.2.1)) fun y => T.ret (W ((1 : Int) + if y > y_1 then y else y_1))))
noncomputable def bvh_Tree_deep.h : Nat → bvh_Tree_deep.Fun
  | 0, _ => none
  | d + 1, x => (bvh_Tree_deep.t (bvh_Tree_deep.h d) x).run
theorem bvh_Tree_deep.all : ∀ d, FnOK Try.prog 31 (bvh_Tree_deep.qh (bvh_Tree_deep.h d))
  | 0 => fun args v h => by
    exfalso
    unfold bvh_Tree_deep.qh entry at h
    split at h
    · obtain ⟨_, h1, _⟩ := run_bind h
      obtain ⟨_, h2, _⟩ := run_opt h1
      cases h2
    · exact run_fail h
  | d + 1 => entry_call (ps := [(.ptr TTree), TI]) (rs := [TI]) (F := bvh_Tree_deep.fns (bvh_Tree_deep.h d)) (D := D0) (S := noS) (t := bvh_Tree_deep.t (bvh_Tree_deep.h d)) mixed (quiet_ext (quiet_ext Xok bvh_Tree_Node.ok) (bvh_Tree_deep.all d)) (deep_none _) Try.func31 (by kernel_rfl) (fun c _ => sok_none _ 0 c) (by kernel_rfl) (fun x => by kernel_rfl)
noncomputable def bvh_Tree_deep (x : ((List (((Option Nat × Option Nat × Option Nat) × Option Nat × Option Nat × Option Nat) × Int × Int × Int × Int)) × List (Int)) × Int) : Option (Int) := bvh_Tree_deep.h 1000 x
noncomputable def bvh_Tree_deep.q : List AV → T AV := bvh_Tree_deep.qh bvh_Tree_deep
theorem bvh_Tree_deep.ok : FnOK Try.prog 31 bvh_Tree_deep.q := bvh_Tree_deep.all 1000
end Go.Proofs.Pen

namespace Go.Proofs.Pen
open Go Go.Proofs
noncomputable def bvh_Tree_Depth.t (x : ((List (((Option Nat × Option Nat × Option Nat) × Option Nat × Option Nat × Option Nat) × Int × Int × Int × Int)) × List (Int))) : T (Int) := T.opt (bvh_Tree_deep (x, (0 : Int))) fun y => T.ret y
noncomputable def bvh_Tree_Depth (x : ((List (((Option Nat × Option Nat × Option Nat) × Option Nat × Option Nat × Option Nat) × Int × Int × Int × Int)) × List (Int))) : Option (Int) := (bvh_Tree_Depth.t x).run
noncomputable def bvh_Tree_Depth.q : List AV → T AV := entry [(.ptr TTree)] (outR [TI]) fun x => .opt (bvh_Tree_Depth x) .ret
theorem bvh_Tree_Depth.ok : FnOK Try.prog 18 bvh_Tree_Depth.q :=
  entry_call (ps := [(.ptr TTree)]) (rs := [TI]) (F := ({ quiet := (ext Xs 31 bvh_Tree_deep.q), deep := noDeep } : Fns)) (D := D0) (S := tabS []) (t := bvh_Tree_Depth.t) mixed (quiet_ext Xok bvh_Tree_deep.ok) (deep_none _) Try.func18 (by kernel_rfl) (sok_fn trivial) (by kernel_rfl) (fun x => by kernel_rfl)
end Go.Proofs.Pen

namespace Go.Proofs.Pen
open Go Go.Proofs
noncomputable def bvh_Tree_Tri.t (x : ((List (((Option Nat × Option Nat × Option Nat) × Option Nat × Option Nat × Option Nat) × Int × Int × Int × Int)) × List (Int)) × Int) : T (Int) := T.ite (decide (x.2 < (0 : Int))) (T.ret (-1 : Int)) (T.ite (decide (x.2 ≥ (↑(List.length x.1.2) : Int))) (T.ret (-1 : Int)) (T.opt (lget x.1.2 x.2) fun y => T.ret y))
noncomputable def bvh_Tree_Tri (x : ((List (((Option Nat × Option Nat × Option Nat) × Option Nat × Option Nat × Option Nat) × Int × Int × Int × Int)) × List (Int)) × Int) : Option (Int) := (bvh_Tree_Tri.t x).run
noncomputable def bvh_Tree_Tri.q : List AV → T AV := entry [(.ptr TTree), TI] (outR [TI]) fun x => .opt (bvh_Tree_Tri x) .ret
theorem bvh_Tree_Tri.ok : FnOK Try.prog 20 bvh_Tree_Tri.q :=
  entry_call (ps := [(.ptr TTree), TI]) (rs := [TI]) (F := ({ quiet := Xs, deep := noDeep } : Fns)) (D := D0) (S := tabS []) (t := bvh_Tree_Tri.t) mixed Xok (deep_none _) Try.func20 (by kernel_rfl) (sok_fn trivial) (by kernel_rfl) (fun x => by kernel_rfl)
end Go.Proofs.Pen

namespace Go.Proofs.Pen
open Go Go.Proofs
def ref01_Ints.L0 : List (Nat × Lay) := [(0, .val (.sl TI)), (1, .val (.sl TI)), (4, .val .bool), (5, .val TI)]
noncomputable def ref01_Ints.t0 (x : (List (Int)) × (List (Int)) × Bool × Int × Unit) : T (Ex × (List (Int)) × (List (Int)) × Bool × Int × Unit) := T.ite (decide (x.2.2.2.1 < (↑(List.length x.1) : Int))) (T.opt (lget x.1 x.2.2.2.1) fun y => T.opt (lget x.2.1 x.2.2.2.1) fun y_1 => T.ite (y != y_1) (T.ret (Ex.ret, x.1, x.2.1, false, x.2.2.2.1, ())) (T.ret (Ex.normal, x.1, x.2.1, x.2.2.1, W (x.2.2.2.1 + (1 : Int)), ()))) (T.ret (Ex.exit (0 : Nat), x.1, x.2.1, x.2.2.1, x.2.2.2.1, ()))
noncomputable def ref01_Ints.l0 (x : (List (Int)) × (List (Int)) × Bool × Int × Unit) : Option (Ex × (List (Int)) × (List (Int)) × Bool × Int × Unit) := (iterT ref01_Ints.t0 rounds x).run
theorem ref01_Ints.k0 : bodies 0 (lp Try.f10 []) = [.loop (loopIn 0 (lp Try.f10 []))] ∧ WP Try.prog 0 (.block 0 (.loop (loopIn 0 (lp Try.f10 [])))) (loopS ref01_Ints.L0 26 0 [.exit 0, .ret] ref01_Ints.l0) :=
  loop_tree (L := ref01_Ints.L0) (F := ({ quiet := Xs, deep := noDeep } : Fns)) (D := D0) (tab := []) (t := ref01_Ints.t0) mixed Xok (deep_none _) (fun _ => rfl) (by kernel_rfl) (by kernel_rfl) trivial (fun x => by kernel_rfl)
noncomputable def ref01_Ints.t (x : (List (Int)) × (List (Int))) : T (Bool) := T.ite ((↑(List.length x.1) : Int) != (↑(List.length x.2) : Int)) (T.ret false) (T.opt (ref01_Ints.l0 (x.1, x.2, false, (0 : Int), ())) fun y => T.ite (exEq y.1 (Ex.exit (0 : Nat))) (T.ret true) (T.ite (exEq y.1 Ex.ret) (T.ret y.2.2.2.1) T.fail))
noncomputable def ref01_Ints (x : (List (Int)) × (List (Int))) : Option (Bool) := (ref01_Ints.t x).run
noncomputable def ref01_Ints.q : List AV → T AV := entry [(.sl TI), (.sl TI)] (outR [.bool]) fun x => .opt (ref01_Ints x) .ret
theorem ref01_Ints.ok : FnOK Try.prog 10 ref01_Ints.q :=
  entry_call (ps := [(.sl TI), (.sl TI)]) (rs := [.bool]) (F := ({ quiet := Xs, deep := noDeep } : Fns)) (D := D0) (S := tabS [(0, loopS ref01_Ints.L0 26 0 [.exit 0, .ret] ref01_Ints.l0)]) (t := ref01_Ints.t) mixed Xok (deep_none _) Try.func10 (by kernel_rfl) (sok_fn ⟨ref01_Ints.k0, trivial⟩) (by kernel_rfl) (fun x => by kernel_rfl)
end Go.Proofs.Pen

namespace Go.Proofs.Pen
open Go Go.Proofs
set_option maxRecDepth 100000
noncomputable def law12_awake.tabl : DTab := (tbExt tb 8 (frzQ bvh_New.q))
theorem law12_awake.tablOk : TBOK Try.prog law12_awake.tabl := (tb_ext tbOk (frzQ_ok bvh_New.ok))
noncomputable def law12_awake.q : List AV → T AV := entry [] (outR [.bool]) fun _ => .ret (true : dens [.bool])
theorem law12_awake.ok : FnOK Try.prog 7 law12_awake.q := peT_entry mixed (quiet_ext (quiet_ext (quiet_ext (quiet_ext (quiet_ext (quiet_ext Xok bvh_Tree_Nodes.ok) bvh_Tree_Order.ok) bvh_Tree_Depth.ok) bvh_Tree_Tri.ok) ref01_Ints.ok) bvh_New.ok) [13, 9, 18, 20, 10] law12_awake.tablOk 300 40 Try.func7 (by kernel_rfl) (by kernel_rfl)
end Go.Proofs.Pen

namespace Go.Proofs.Pen
open Go Go.Proofs
def law12_rise.L2 : List (Nat × Lay) := [(0, .val (.sl TI)), (3, .row TI), (4, .val TI), (5, .val TI)]
noncomputable def law12_rise.t2 (x : (List (Int)) × List Int × Int × Int × Unit) : T (Ex × (List (Int)) × List Int × Int × Int × Unit) := T.ite (decide (x.2.2.2.1 < (↑x.2.1.length : Int))) (T.ite (decide ((0 : Int) ≤ x.2.2.2.1) && decide (x.2.2.2.1 < (↑x.2.1.length : Int))) (T.opt x.2.1[(0 : Nat) + Int.toNat x.2.2.2.1]? fun y => T.opt (lget x.1 x.2.2.1) fun y_1 => T.ite (decide (y < y_1)) (T.ret (Ex.normal, x.1, List.take x.2.1.length x.2.1, x.2.2.1, W (x.2.2.2.1 + (1 : Int)), ())) (T.ret (Ex.exit (2 : Nat), x.1, List.take x.2.1.length x.2.1, x.2.2.1, x.2.2.2.1, ()))) T.fail) (T.ret (Ex.exit (2 : Nat), x.1, List.take x.2.1.length x.2.1, x.2.2.1, x.2.2.2.1, ()))
noncomputable def law12_rise.l2 (x : (List (Int)) × List Int × Int × Int × Unit) : Option (Ex × (List (Int)) × List Int × Int × Int × Unit) := (iterT law12_rise.t2 rounds x).run
theorem law12_rise.k2 : bodies 2 (lp Try.f11 [0]) = [.loop (loopIn 2 (lp Try.f11 [0]))] ∧ WP Try.prog 0 (.block 2 (.loop (loopIn 2 (lp Try.f11 [0])))) (loopS law12_rise.L2 48 2 [.exit 2] law12_rise.l2) :=
  loop_tree (L := law12_rise.L2) (F := ({ quiet := Xs, deep := noDeep } : Fns)) (D := D0) (tab := []) (t := law12_rise.t2) mixed Xok (deep_none _) (fun _ => rfl) (by kernel_rfl) (by kernel_rfl) trivial (fun x => by kernel_rfl)
def law12_rise.L0 : List (Nat × Lay) := [(0, .val (.sl TI)), (3, .row TI), (4, .val TI)]
noncomputable def law12_rise.t0 (x : (List (Int)) × List Int × Int × Unit) : T (Ex × (List (Int)) × List Int × Int × Unit) := T.ite (decide (x.2.2.1 < (↑(List.length x.1) : Int))) (T.opt (law12_rise.l2 (x.1, List.take x.2.1.length x.2.1, x.2.2.1, (0 : Int), ())) fun y => T.ite (exEq y.1 (Ex.exit (2 : Nat))) (T.ite (decide ((0 : Int) ≤ (0 : Int)) && decide ((0 : Int) ≤ y.2.2.2.2.1) && decide (y.2.2.2.2.1 ≤ (↑y.2.2.1.length : Int))) (T.ite (decide (((0 : Nat) + (List.take (Int.toNat y.2.2.2.2.1 - Int.toNat (0 : Int)) (List.drop ((0 : Nat) + Int.toNat (0 : Int)) y.2.2.1)).length) * nat_lit 8 ≤ most)) (T.opt (lget y.2.1 y.2.2.2.1) fun y_1 => T.ite (decide (((0 : Nat) + (List.take (Int.toNat y.2.2.2.2.1 - Int.toNat (0 : Int)) (List.drop ((0 : Nat) + Int.toNat (0 : Int)) y.2.2.1)).length + (1 : Nat)) * nat_lit 8 ≤ most)) (T.ite (decide ((0 : Int) ≤ y.2.2.2.2.1) && decide (y.2.2.2.2.1 ≤ (↑y.2.2.1.length : Int)) && decide ((↑y.2.2.1.length : Int) ≤ (↑y.2.2.1.length : Int))) (T.ite (decide (((0 : Nat) + (List.take (Int.toNat y.2.2.2.2.1 - Int.toNat (0 : Int)) (List.drop ((0 : Nat) + Int.toNat (0 : Int)) y.2.2.1)).length + (1 : Nat) + (List.take ((↑y.2.2.1.length : Int).toNat - Int.toNat y.2.2.2.2.1) (List.drop ((0 : Nat) + Int.toNat y.2.2.2.2.1) y.2.2.1)).length) * nat_lit 8 ≤ most)) (T.ret (Ex.normal, y.2.1, List.take ((0 : Nat) + (List.take (Int.toNat y.2.2.2.2.1 - Int.toNat (0 : Int)) (List.drop ((0 : Nat) + Int.toNat (0 : Int)) y.2.2.1)).length + (1 : Nat) + (List.take ((↑y.2.2.1.length : Int).toNat - Int.toNat y.2.2.2.2.1) (List.drop ((0 : Nat) + Int.toNat y.2.2.2.2.1) y.2.2.1)).length) (List.take ((0 : Nat) + (List.take (Int.toNat y.2.2.2.2.1 - Int.toNat (0 : Int)) (List.drop ((0 : Nat) + Int.toNat (0 : Int)) y.2.2.1)).length + (1 : Nat)) (List.take ((0 : Nat) + (List.take (Int.toNat y.2.2.2.2.1 - Int.toNat (0 : Int)) (List.drop ((0 : Nat) + Int.toNat (0 : Int)) y.2.2.1)).length) (List.take (0 : Nat) [] ++ List.take (Int.toNat y.2.2.2.2.1 - Int.toNat (0 : Int)) (List.drop ((0 : Nat) + Int.toNat (0 : Int)) y.2.2.1)) ++ [y_1]) ++ List.take ((↑y.2.2.1.length : Int).toNat - Int.toNat y.2.2.2.2.1) (List.drop ((0 : Nat) + Int.toNat y.2.2.2.2.1) y.2.2.1)), W (y.2.2.2.1 + (1 : Int)), ())) T.fail) T.fail) T.fail) T.fail) T.fail) T.fail) (T.ret (Ex.exit (0 : Nat), x.1, List.take x.2.1.length x.2.1, x.2.2.1, ()))
noncomputable def law12_rise.l0 (x : (List (Int)) × List Int × Int × Unit) : Option (Ex × (List (Int)) × List Int × Int × Unit) := (iterT law12_rise.t0 rounds x).run
theorem law12_rise.k0 : bodies 0 (lp Try.f11 []) = [.loop (loopIn 0 (lp Try.f11 []))] ∧ WP Try.prog 0 (.block 0 (.loop (loopIn 0 (lp Try.f11 [])))) (loopS law12_rise.L0 48 0 [.exit 0] law12_rise.l0) :=
  loop_tree (L := law12_rise.L0) (F := ({ quiet := Xs, deep := noDeep } : Fns)) (D := D0) (tab := [(2, loopS law12_rise.L2 48 2 [.exit 2] law12_rise.l2)]) (t := law12_rise.t0) mixed Xok (deep_none _) (fun _ => rfl) (by kernel_rfl) (by kernel_rfl) ⟨law12_rise.k2, trivial⟩ (fun x => by kernel_rfl)
noncomputable def law12_rise.t (x : (List (Int))) : T ((List (Int))) := T.opt (law12_rise.l0 (x, [], (0 : Int), ())) fun y => T.ite (exEq y.1 (Ex.exit (0 : Nat))) (T.ret (List.take y.2.2.1.length y.2.2.1)) T.fail
noncomputable def law12_rise (x : (List (Int))) : Option ((List (Int))) := (law12_rise.t x).run
noncomputable def law12_rise.q : List AV → T AV := entry [(.sl TI)] (outR [(.sl TI)]) fun x => .opt (law12_rise x) .ret
theorem law12_rise.ok : FnOK Try.prog 11 law12_rise.q :=
  entry_call (ps := [(.sl TI)]) (rs := [(.sl TI)]) (F := ({ quiet := Xs, deep := noDeep } : Fns)) (D := D0) (S := tabS [(0, loopS law12_rise.L0 48 0 [.exit 0] law12_rise.l0)]) (t := law12_rise.t) mixed Xok (deep_none _) Try.func11 (by kernel_rfl) (sok_fn ⟨law12_rise.k0, trivial⟩) (by kernel_rfl) (fun x => by kernel_rfl)
end Go.Proofs.Pen

namespace Go.Proofs.Pen
open Go Go.Proofs
def law12_all.L0 : List (Nat × Lay) := [(0, .val TI), (3, .row TI), (4, .val TI)]
noncomputable def law12_all.t0 (x : Int × List Int × Int × Unit) : T (Ex × Int × List Int × Int × Unit) := T.ite (decide (x.2.2.1 < x.1)) (T.ite (decide ((x.2.1.length + (1 : Nat)) * nat_lit 8 ≤ most)) (T.ret (Ex.normal, x.1, List.take (x.2.1.length + (1 : Nat)) (List.take x.2.1.length x.2.1 ++ [x.2.2.1]), W (x.2.2.1 + (1 : Int)), ())) T.fail) (T.ret (Ex.exit (0 : Nat), x.1, List.take x.2.1.length x.2.1, x.2.2.1, ()))
noncomputable def law12_all.l0 (x : Int × List Int × Int × Unit) : Option (Ex × Int × List Int × Int × Unit) := (iterT law12_all.t0 rounds x).run
theorem law12_all.k0 : bodies 0 (lp Try.f12 []) = [.loop (loopIn 0 (lp Try.f12 []))] ∧ WP Try.prog 0 (.block 0 (.loop (loopIn 0 (lp Try.f12 [])))) (loopS law12_all.L0 15 0 [.exit 0] law12_all.l0) :=
  loop_tree (L := law12_all.L0) (F := ({ quiet := Xs, deep := noDeep } : Fns)) (D := D0) (tab := []) (t := law12_all.t0) mixed Xok (deep_none _) (fun _ => rfl) (by kernel_rfl) (by kernel_rfl) trivial (fun x => by kernel_rfl)
noncomputable def law12_all.t (x : Int) : T ((List (Int))) := T.opt (law12_all.l0 (x, [], (0 : Int), ())) fun y => T.ite (exEq y.1 (Ex.exit (0 : Nat))) (T.ret (List.take y.2.2.1.length y.2.2.1)) T.fail
noncomputable def law12_all (x : Int) : Option ((List (Int))) := (law12_all.t x).run
noncomputable def law12_all.q : List AV → T AV := entry [TI] (outR [(.sl TI)]) fun x => .opt (law12_all x) .ret
theorem law12_all.ok : FnOK Try.prog 12 law12_all.q :=
  entry_call (ps := [TI]) (rs := [(.sl TI)]) (F := ({ quiet := Xs, deep := noDeep } : Fns)) (D := D0) (S := tabS [(0, loopS law12_all.L0 15 0 [.exit 0] law12_all.l0)]) (t := law12_all.t) mixed Xok (deep_none _) Try.func12 (by kernel_rfl) (sok_fn ⟨law12_all.k0, trivial⟩) (by kernel_rfl) (fun x => by kernel_rfl)
end Go.Proofs.Pen

namespace Go.Proofs.Pen
open Go Go.Proofs
noncomputable def ref04_Empty.t (_ : Unit) : T (((Option Nat × Option Nat × Option Nat) × Option Nat × Option Nat × Option Nat)) := T.opt (math_Inf (1 : Int)) fun y => T.opt (math_Inf (-1 : Int)) fun y_1 => T.ret ((y, y, y), y_1, y_1, y_1)
noncomputable def ref04_Empty (x : Unit) : Option (((Option Nat × Option Nat × Option Nat) × Option Nat × Option Nat × Option Nat)) := (ref04_Empty.t x).run
noncomputable def ref04_Empty.q : List AV → T AV := entry [] (outR [TBox]) fun x => .opt (ref04_Empty x) .ret
theorem ref04_Empty.ok : FnOK Try.prog 27 ref04_Empty.q :=
  entry_call (ps := []) (rs := [TBox]) (F := ({ quiet := (ext Xs 43 math_Inf.q), deep := noDeep } : Fns)) (D := D0) (S := tabS []) (t := ref04_Empty.t) mixed (quiet_ext Xok math_Inf.ok) (deep_none _) Try.func27 (by kernel_rfl) (sok_fn trivial) (by kernel_rfl) (fun x => by kernel_rfl)
end Go.Proofs.Pen

namespace Go.Proofs.Pen
open Go Go.Proofs
noncomputable def ref04_Low.t (x : (Option Nat) × (Option Nat)) : T ((Option Nat)) := T.ite (ford x.2 x.1 == some Ordering.lt) (T.ret x.2) (T.ret x.1)
noncomputable def ref04_Low (x : (Option Nat) × (Option Nat)) : Option ((Option Nat)) := (ref04_Low.t x).run
noncomputable def ref04_Low.q : List AV → T AV := entry [.flt, .flt] (outR [.flt]) fun x => .opt (ref04_Low x) .ret
theorem ref04_Low.ok : FnOK Try.prog 29 ref04_Low.q :=
  entry_call (ps := [.flt, .flt]) (rs := [.flt]) (F := ({ quiet := Xs, deep := noDeep } : Fns)) (D := D0) (S := tabS []) (t := ref04_Low.t) mixed Xok (deep_none _) Try.func29 (by kernel_rfl) (sok_fn trivial) (by kernel_rfl) (fun x => by kernel_rfl)
end Go.Proofs.Pen

namespace Go.Proofs.Pen
open Go Go.Proofs
noncomputable def ref04_High.t (x : (Option Nat) × (Option Nat)) : T ((Option Nat)) := T.ite (ford x.2 x.1 == some Ordering.gt) (T.ret x.2) (T.ret x.1)
noncomputable def ref04_High (x : (Option Nat) × (Option Nat)) : Option ((Option Nat)) := (ref04_High.t x).run
noncomputable def ref04_High.q : List AV → T AV := entry [.flt, .flt] (outR [.flt]) fun x => .opt (ref04_High x) .ret
theorem ref04_High.ok : FnOK Try.prog 30 ref04_High.q :=
  entry_call (ps := [.flt, .flt]) (rs := [.flt]) (F := ({ quiet := Xs, deep := noDeep } : Fns)) (D := D0) (S := tabS []) (t := ref04_High.t) mixed Xok (deep_none _) Try.func30 (by kernel_rfl) (sok_fn trivial) (by kernel_rfl) (fun x => by kernel_rfl)
end Go.Proofs.Pen

namespace Go.Proofs.Pen
open Go Go.Proofs
noncomputable def ref04_Join.t (x : ((Option Nat × Option Nat × Option Nat) × Option Nat × Option Nat × Option Nat) × ((Option Nat × Option Nat × Option Nat) × Option Nat × Option Nat × Option Nat)) : T (((Option Nat × Option Nat × Option Nat) × Option Nat × Option Nat × Option Nat)) := T.opt (ref04_Low (x.1.1.1, x.2.1.1)) fun y => T.opt (ref04_Low (x.1.1.2.1, x.2.1.2.1)) fun y_1 => T.opt (ref04_Low (x.1.1.2.2, x.2.1.2.2)) fun y_2 => T.opt (ref04_High (x.1.2.1, x.2.2.1)) fun y_3 => T.opt (ref04_High (x.1.2.2.1, x.2.2.2.1)) fun y_4 => T.opt (ref04_High (x.1.2.2.2, x.2.2.2.2)) fun y_5 => T.ret ((y, y_1, y_2), y_3, y_4, y_5)
noncomputable def ref04_Join (x : ((Option Nat × Option Nat × Option Nat) × Option Nat × Option Nat × Option Nat) × ((Option Nat × Option Nat × Option Nat) × Option Nat × Option Nat × Option Nat)) : Option (((Option Nat × Option Nat × Option Nat) × Option Nat × Option Nat × Option Nat)) := (ref04_Join.t x).run
noncomputable def ref04_Join.q : List AV → T AV := entry [TBox, TBox] (outR [TBox]) fun x => .opt (ref04_Join x) .ret
theorem ref04_Join.ok : FnOK Try.prog 16 ref04_Join.q :=
  entry_call (ps := [TBox, TBox]) (rs := [TBox]) (F := ({ quiet := (ext (ext Xs 29 ref04_Low.q) 30 ref04_High.q), deep := noDeep } : Fns)) (D := D0) (S := tabS []) (t := ref04_Join.t) mixed (quiet_ext (quiet_ext Xok ref04_Low.ok) ref04_High.ok) (deep_none _) Try.func16 (by kernel_rfl) (sok_fn trivial) (by kernel_rfl) (fun x => by kernel_rfl)
end Go.Proofs.Pen

namespace Go.Proofs.Pen
open Go Go.Proofs
noncomputable def ref04_Of.t (x : ((Option Nat × Option Nat × Option Nat) × (Option Nat × Option Nat × Option Nat) × Option Nat × Option Nat × Option Nat)) : T (((Option Nat × Option Nat × Option Nat) × Option Nat × Option Nat × Option Nat)) := T.opt (ref04_Empty ()) fun y => T.opt (ref04_Join (y, x.1, x.1)) fun y => T.opt (ref04_Join (y, x.2.1, x.2.1)) fun y => T.opt (ref04_Join (y, x.2.2, x.2.2)) fun y => T.ret y
noncomputable def ref04_Of (x : ((Option Nat × Option Nat × Option Nat) × (Option Nat × Option Nat × Option Nat) × Option Nat × Option Nat × Option Nat)) : Option (((Option Nat × Option Nat × Option Nat) × Option Nat × Option Nat × Option Nat)) := (ref04_Of.t x).run
noncomputable def ref04_Of.q : List AV → T AV := entry [TTri] (outR [TBox]) fun x => .opt (ref04_Of x) .ret
theorem ref04_Of.ok : FnOK Try.prog 14 ref04_Of.q :=
  entry_call (ps := [TTri]) (rs := [TBox]) (F := ({ quiet := (ext (ext Xs 27 ref04_Empty.q) 16 ref04_Join.q), deep := noDeep } : Fns)) (D := D0) (S := tabS []) (t := ref04_Of.t) mixed (quiet_ext (quiet_ext Xok ref04_Empty.ok) ref04_Join.ok) (deep_none _) Try.func14 (by kernel_rfl) (sok_fn trivial) (by kernel_rfl) (fun x => by kernel_rfl)
end Go.Proofs.Pen

namespace Go.Proofs.Pen
open Go Go.Proofs
noncomputable def ref02_Same.t (x : (Option Nat) × (Option Nat)) : T (Bool) := T.ret (ford x.1 x.2 == some Ordering.eq || ford x.1 x.1 != some Ordering.eq && ford x.2 x.2 != some Ordering.eq)
noncomputable def ref02_Same.q : List AV → T AV := entry [.flt, .flt] (outR [.bool]) ref02_Same.t
theorem ref02_Same.ok : FnOK Try.prog 44 ref02_Same.q :=
  entry_in (ps := [.flt, .flt]) (rs := [.bool]) (F := ({ quiet := Xs, deep := noDeep } : Fns)) (D := D0) (S := tabS []) (t := ref02_Same.t) mixed Xok (deep_none _) Try.func44 (by kernel_rfl) (sok_fn trivial) (by kernel_rfl) (fun x => by kernel_rfl)
end Go.Proofs.Pen

namespace Go.Proofs.Pen
open Go Go.Proofs
noncomputable def ref02_Is.t (x : (Option Nat × Option Nat × Option Nat) × (Option Nat × Option Nat × Option Nat)) : T (Bool) := T.ite (ford x.1.1 x.2.1 == some Ordering.eq || ford x.1.1 x.1.1 != some Ordering.eq && ford x.2.1 x.2.1 != some Ordering.eq) (T.ite (ford x.1.2.1 x.2.2.1 == some Ordering.eq || ford x.1.2.1 x.1.2.1 != some Ordering.eq && ford x.2.2.1 x.2.2.1 != some Ordering.eq) (T.ret (ford x.1.2.2 x.2.2.2 == some Ordering.eq || ford x.1.2.2 x.1.2.2 != some Ordering.eq && ford x.2.2.2 x.2.2.2 != some Ordering.eq)) (T.ret false)) (T.ret false)
noncomputable def ref02_Is (x : (Option Nat × Option Nat × Option Nat) × (Option Nat × Option Nat × Option Nat)) : Option (Bool) := (ref02_Is.t x).run
noncomputable def ref02_Is.q : List AV → T AV := entry [TV, TV] (outR [.bool]) fun x => .opt (ref02_Is x) .ret
theorem ref02_Is.ok : FnOK Try.prog 28 ref02_Is.q :=
  entry_call (ps := [TV, TV]) (rs := [.bool]) (F := ({ quiet := (ext Xs 44 ref02_Same.q), deep := noDeep } : Fns)) (D := D0) (S := tabS []) (t := ref02_Is.t) mixed (quiet_ext Xok ref02_Same.ok) (deep_none _) Try.func28 (by kernel_rfl) (sok_fn trivial) (by kernel_rfl) (fun x => by kernel_rfl)
end Go.Proofs.Pen

namespace Go.Proofs.Pen
open Go Go.Proofs
noncomputable def ref04_Is.t (x : ((Option Nat × Option Nat × Option Nat) × Option Nat × Option Nat × Option Nat) × ((Option Nat × Option Nat × Option Nat) × Option Nat × Option Nat × Option Nat)) : T (Bool) := T.opt (ref02_Is (x.1.1, x.2.1)) fun y => T.ite y (T.opt (ref02_Is (x.1.2, x.2.2)) fun y => T.ret y) (T.ret false)
noncomputable def ref04_Is (x : ((Option Nat × Option Nat × Option Nat) × Option Nat × Option Nat × Option Nat) × ((Option Nat × Option Nat × Option Nat) × Option Nat × Option Nat × Option Nat)) : Option (Bool) := (ref04_Is.t x).run
noncomputable def ref04_Is.q : List AV → T AV := entry [TBox, TBox] (outR [.bool]) fun x => .opt (ref04_Is x) .ret
theorem ref04_Is.ok : FnOK Try.prog 15 ref04_Is.q :=
  entry_call (ps := [TBox, TBox]) (rs := [.bool]) (F := ({ quiet := (ext Xs 28 ref02_Is.q), deep := noDeep } : Fns)) (D := D0) (S := tabS []) (t := ref04_Is.t) mixed (quiet_ext Xok ref02_Is.ok) (deep_none _) Try.func15 (by kernel_rfl) (sok_fn trivial) (by kernel_rfl) (fun x => by kernel_rfl)
end Go.Proofs.Pen

namespace Go.Proofs.Pen
open Go Go.Proofs
noncomputable def bvh_Tree_Root.t (x : ((List (((Option Nat × Option Nat × Option Nat) × Option Nat × Option Nat × Option Nat) × Int × Int × Int × Int)) × List (Int))) : T ((((Option Nat × Option Nat × Option Nat) × Option Nat × Option Nat × Option Nat) × Int × Int × Int × Int) × Bool) := T.opt (bvh_Tree_Node (x, (0 : Int))) fun y => T.ret y
noncomputable def bvh_Tree_Root (x : ((List (((Option Nat × Option Nat × Option Nat) × Option Nat × Option Nat × Option Nat) × Int × Int × Int × Int)) × List (Int))) : Option ((((Option Nat × Option Nat × Option Nat) × Option Nat × Option Nat × Option Nat) × Int × Int × Int × Int) × Bool) := (bvh_Tree_Root.t x).run
noncomputable def bvh_Tree_Root.q : List AV → T AV := entry [(.ptr TTree)] (outR [TNode, .bool]) fun x => .opt (bvh_Tree_Root x) .ret
theorem bvh_Tree_Root.ok : FnOK Try.prog 17 bvh_Tree_Root.q :=
  entry_call (ps := [(.ptr TTree)]) (rs := [TNode, .bool]) (F := ({ quiet := (ext Xs 19 bvh_Tree_Node.q), deep := noDeep } : Fns)) (D := D0) (S := tabS []) (t := bvh_Tree_Root.t) mixed (quiet_ext Xok bvh_Tree_Node.ok) (deep_none _) Try.func17 (by kernel_rfl) (sok_fn trivial) (by kernel_rfl) (fun x => by kernel_rfl)
end Go.Proofs.Pen

namespace Go.Proofs.Pen
open Go Go.Proofs
def law12_BvhSound.L0 : List (Nat × Lay) := [(0, .val (.sl TTri)), (1, .val .bool), (4, .val .bool), (5, .val TI)]
noncomputable def law12_BvhSound.t0 (x : (List ((Option Nat × Option Nat × Option Nat) × (Option Nat × Option Nat × Option Nat) × Option Nat × Option Nat × Option Nat)) × Bool × Bool × Int × Unit) : T (Ex × (List ((Option Nat × Option Nat × Option Nat) × (Option Nat × Option Nat × Option Nat) × Option Nat × Option Nat × Option Nat)) × Bool × Bool × Int × Unit) := T.ite (decide (x.2.2.2.1 < (↑(List.length x.1) : Int))) (T.opt (lget x.1 x.2.2.2.1) fun y => T.opt (ref12_May y) fun y => T.ite (!y) (T.ret (Ex.ret, x.1, x.2.1, true, x.2.2.2.1, ())) (T.ret (Ex.normal, x.1, x.2.1, x.2.2.1, W (x.2.2.2.1 + (1 : Int)), ()))) (T.ret (Ex.exit (0 : Nat), x.1, x.2.1, x.2.2.1, x.2.2.2.1, ()))
noncomputable def law12_BvhSound.l0 (x : (List ((Option Nat × Option Nat × Option Nat) × (Option Nat × Option Nat × Option Nat) × Option Nat × Option Nat × Option Nat)) × Bool × Bool × Int × Unit) : Option (Ex × (List ((Option Nat × Option Nat × Option Nat) × (Option Nat × Option Nat × Option Nat) × Option Nat × Option Nat × Option Nat)) × Bool × Bool × Int × Unit) := (iterT law12_BvhSound.t0 rounds x).run
theorem law12_BvhSound.k0 : bodies 0 (lp Try.f3 []) = [.loop (loopIn 0 (lp Try.f3 []))] ∧ WP Try.prog 0 (.block 0 (.loop (loopIn 0 (lp Try.f3 [])))) (loopS law12_BvhSound.L0 192 0 [.exit 0, .ret] law12_BvhSound.l0) :=
  loop_tree (L := law12_BvhSound.L0) (F := ({ quiet := (ext (ext (ext (ext (ext (ext (ext (ext (ext (ext (ext (ext (ext (ext (ext (ext (ext (ext (ext Xs 5 law12_few.q) 6 ref12_May.q) 7 law12_awake.q) 8 bvh_New.q) 9 bvh_Tree_Order.q) 11 law12_rise.q) 12 law12_all.q) 10 ref01_Ints.q) 13 bvh_Tree_Nodes.q) 14 ref04_Of.q) 16 ref04_Join.q) 15 ref04_Is.q) 17 bvh_Tree_Root.q) 18 bvh_Tree_Depth.q) 48 vec_Add_1.q) 54 bvh_builder_median_1.q) 56 bvh_builder_median_2.q) 63 vec_Mul_1.q) 75 vec_Sub_1.q), deep := noDeep } : Fns)) (D := D0) (tab := []) (t := law12_BvhSound.t0) mixed (quiet_ext (quiet_ext (quiet_ext (quiet_ext (quiet_ext (quiet_ext (quiet_ext (quiet_ext (quiet_ext (quiet_ext (quiet_ext (quiet_ext (quiet_ext (quiet_ext (quiet_ext (quiet_ext (quiet_ext (quiet_ext (quiet_ext Xok law12_few.ok) ref12_May.ok) law12_awake.ok) bvh_New.ok) bvh_Tree_Order.ok) law12_rise.ok) law12_all.ok) ref01_Ints.ok) bvh_Tree_Nodes.ok) ref04_Of.ok) ref04_Join.ok) ref04_Is.ok) bvh_Tree_Root.ok) bvh_Tree_Depth.ok) vec_Add_1.ok) bvh_builder_median_1.ok) bvh_builder_median_2.ok) vec_Mul_1.ok) vec_Sub_1.ok) (deep_none _) (fun _ => rfl) (by kernel_rfl) (by kernel_rfl) trivial (fun x => by kernel_rfl)
def law12_BvhSound.L4 : List (Nat × Lay) := [(0, .val (.sl TTri)), (4, .val .bool), (6, .val (.ptr TTree)), (8, .val (.sl TI)), (9, .val (.sl TNode)), (10, .val TI), (11, .val TI), (12, .box TNode), (13, .val TI)]
noncomputable def law12_BvhSound.t4 (x : (List ((Option Nat × Option Nat × Option Nat) × (Option Nat × Option Nat × Option Nat) × Option Nat × Option Nat × Option Nat)) × Bool × ((List (((Option Nat × Option Nat × Option Nat) × Option Nat × Option Nat × Option Nat) × Int × Int × Int × Int)) × List (Int)) × (List (Int)) × (List (((Option Nat × Option Nat × Option Nat) × Option Nat × Option Nat × Option Nat) × Int × Int × Int × Int)) × Int × Int × (((Option Nat × Option Nat × Option Nat) × Option Nat × Option Nat × Option Nat) × Int × Int × Int × Int) × Int × Unit) : T (Ex × (List ((Option Nat × Option Nat × Option Nat) × (Option Nat × Option Nat × Option Nat) × Option Nat × Option Nat × Option Nat)) × Bool × ((List (((Option Nat × Option Nat × Option Nat) × Option Nat × Option Nat × Option Nat) × Int × Int × Int × Int)) × List (Int)) × (List (Int)) × (List (((Option Nat × Option Nat × Option Nat) × Option Nat × Option Nat × Option Nat) × Int × Int × Int × Int)) × Int × Int × (((Option Nat × Option Nat × Option Nat) × Option Nat × Option Nat × Option Nat) × Int × Int × Int × Int) × Int × Unit) := T.ite (decide (x.2.2.2.2.2.2.2.2.1 < x.2.2.2.2.2.2.2.1.2.2.2.2)) (T.opt (lget x.2.2.2.1 x.2.2.2.2.2.2.2.2.1) fun y => T.opt (lget x.1 y) fun y => T.opt (ref04_Of y) fun y => T.opt (ref04_Join (x.2.2.2.2.2.2.2.1.1, y)) fun y => T.opt (ref04_Is (y, x.2.2.2.2.2.2.2.1.1)) fun y => T.ite (!y) (T.ret (Ex.ret, x.1, false, x.2.2.1, x.2.2.2.1, x.2.2.2.2.1, x.2.2.2.2.2.1, x.2.2.2.2.2.2.1, x.2.2.2.2.2.2.2.1, x.2.2.2.2.2.2.2.2.1, ())) (T.ret (Ex.normal, x.1, x.2.1, x.2.2.1, x.2.2.2.1, x.2.2.2.2.1, x.2.2.2.2.2.1, x.2.2.2.2.2.2.1, x.2.2.2.2.2.2.2.1, W (x.2.2.2.2.2.2.2.2.1 + (1 : Int)), ()))) (T.ret (Ex.exit (4 : Nat), x.1, x.2.1, x.2.2.1, x.2.2.2.1, x.2.2.2.2.1, x.2.2.2.2.2.1, x.2.2.2.2.2.2.1, x.2.2.2.2.2.2.2.1, x.2.2.2.2.2.2.2.2.1, ()))
noncomputable def law12_BvhSound.l4 (x : (List ((Option Nat × Option Nat × Option Nat) × (Option Nat × Option Nat × Option Nat) × Option Nat × Option Nat × Option Nat)) × Bool × ((List (((Option Nat × Option Nat × Option Nat) × Option Nat × Option Nat × Option Nat) × Int × Int × Int × Int)) × List (Int)) × (List (Int)) × (List (((Option Nat × Option Nat × Option Nat) × Option Nat × Option Nat × Option Nat) × Int × Int × Int × Int)) × Int × Int × (((Option Nat × Option Nat × Option Nat) × Option Nat × Option Nat × Option Nat) × Int × Int × Int × Int) × Int × Unit) : Option (Ex × (List ((Option Nat × Option Nat × Option Nat) × (Option Nat × Option Nat × Option Nat) × Option Nat × Option Nat × Option Nat)) × Bool × ((List (((Option Nat × Option Nat × Option Nat) × Option Nat × Option Nat × Option Nat) × Int × Int × Int × Int)) × List (Int)) × (List (Int)) × (List (((Option Nat × Option Nat × Option Nat) × Option Nat × Option Nat × Option Nat) × Int × Int × Int × Int)) × Int × Int × (((Option Nat × Option Nat × Option Nat) × Option Nat × Option Nat × Option Nat) × Int × Int × Int × Int) × Int × Unit) := (iterT law12_BvhSound.t4 rounds x).run
theorem law12_BvhSound.k4 : bodies 4 (lp Try.f3 [2]) = [.loop (loopIn 4 (lp Try.f3 [2]))] ∧ WP Try.prog 0 (.block 4 (.loop (loopIn 4 (lp Try.f3 [2])))) (loopS law12_BvhSound.L4 192 4 [.exit 4, .ret] law12_BvhSound.l4) :=
  loop_tree (L := law12_BvhSound.L4) (F := ({ quiet := (ext (ext (ext (ext (ext (ext (ext (ext (ext (ext (ext (ext (ext (ext (ext (ext (ext (ext (ext Xs 5 law12_few.q) 6 ref12_May.q) 7 law12_awake.q) 8 bvh_New.q) 9 bvh_Tree_Order.q) 11 law12_rise.q) 12 law12_all.q) 10 ref01_Ints.q) 13 bvh_Tree_Nodes.q) 14 ref04_Of.q) 16 ref04_Join.q) 15 ref04_Is.q) 17 bvh_Tree_Root.q) 18 bvh_Tree_Depth.q) 48 vec_Add_1.q) 54 bvh_builder_median_1.q) 56 bvh_builder_median_2.q) 63 vec_Mul_1.q) 75 vec_Sub_1.q), deep := noDeep } : Fns)) (D := D0) (tab := []) (t := law12_BvhSound.t4) mixed (quiet_ext (quiet_ext (quiet_ext (quiet_ext (quiet_ext (quiet_ext (quiet_ext (quiet_ext (quiet_ext (quiet_ext (quiet_ext (quiet_ext (quiet_ext (quiet_ext (quiet_ext (quiet_ext (quiet_ext (quiet_ext (quiet_ext Xok law12_few.ok) ref12_May.ok) law12_awake.ok) bvh_New.ok) bvh_Tree_Order.ok) law12_rise.ok) law12_all.ok) ref01_Ints.ok) bvh_Tree_Nodes.ok) ref04_Of.ok) ref04_Join.ok) ref04_Is.ok) bvh_Tree_Root.ok) bvh_Tree_Depth.ok) vec_Add_1.ok) bvh_builder_median_1.ok) bvh_builder_median_2.ok) vec_Mul_1.ok) vec_Sub_1.ok) (deep_none _) (fun _ => rfl) (by kernel_rfl) (by kernel_rfl) trivial (fun x => by kernel_rfl)
def law12_BvhSound.L2 : List (Nat × Lay) := [(0, .val (.sl TTri)), (4, .val .bool), (6, .val (.ptr TTree)), (8, .val (.sl TI)), (9, .val (.sl TNode)), (10, .val TI), (11, .val TI)]
noncomputable def law12_BvhSound.t2 (x : (List ((Option Nat × Option Nat × Option Nat) × (Option Nat × Option Nat × Option Nat) × Option Nat × Option Nat × Option Nat)) × Bool × ((List (((Option Nat × Option Nat × Option Nat) × Option Nat × Option Nat × Option Nat) × Int × Int × Int × Int)) × List (Int)) × (List (Int)) × (List (((Option Nat × Option Nat × Option Nat) × Option Nat × Option Nat × Option Nat) × Int × Int × Int × Int)) × Int × Int × Unit) : T (Ex × (List ((Option Nat × Option Nat × Option Nat) × (Option Nat × Option Nat × Option Nat) × Option Nat × Option Nat × Option Nat)) × Bool × ((List (((Option Nat × Option Nat × Option Nat) × Option Nat × Option Nat × Option Nat) × Int × Int × Int × Int)) × List (Int)) × (List (Int)) × (List (((Option Nat × Option Nat × Option Nat) × Option Nat × Option Nat × Option Nat) × Int × Int × Int × Int)) × Int × Int × Unit) := T.ite (decide (x.2.2.2.2.2.2.1 < (↑(List.length x.2.2.2.2.1) : Int))) (T.opt (lget x.2.2.2.2.1 x.2.2.2.2.2.2.1) fun y => T.ite (y.2.1 == (0 : Int)) (T.ite (y.2.2.2.1 != x.2.2.2.2.2.1 || decide (y.2.2.2.2 < y.2.2.2.1) || decide (W (y.2.2.2.2 - y.2.2.2.1) > (4 : Int)) || decide (y.2.2.2.2 > (↑(List.length x.2.2.2.1) : Int))) (T.ret (Ex.ret, x.1, false, x.2.2.1, x.2.2.2.1, x.2.2.2.2.1, x.2.2.2.2.2.1, x.2.2.2.2.2.2.1, ())) (T.opt (law12_BvhSound.l4 (x.1, x.2.1, x.2.2.1, x.2.2.2.1, x.2.2.2.2.1, y.2.2.2.2, x.2.2.2.2.2.2.1, y, y.2.2.2.1, ())) fun y => T.ite (exEq y.1 (Ex.exit (4 : Nat))) (T.ret (Ex.normal, y.2.1, y.2.2.1, y.2.2.2.1, y.2.2.2.2.1, y.2.2.2.2.2.1, y.2.2.2.2.2.2.1, W (y.2.2.2.2.2.2.2.1 + (1 : Int)), ())) (T.ite (exEq y.1 Ex.ret) (T.ret (Ex.ret, y.2.1, y.2.2.1, y.2.2.2.1, y.2.2.2.2.1, y.2.2.2.2.2.1, y.2.2.2.2.2.2.1, y.2.2.2.2.2.2.2.1, ())) T.fail))) (T.ite (y.2.1 != W (x.2.2.2.2.2.2.1 + (1 : Int)) || decide (y.2.2.1 ≤ y.2.1) || decide (y.2.2.1 ≥ (↑(List.length x.2.2.2.2.1) : Int))) (T.ret (Ex.ret, x.1, false, x.2.2.1, x.2.2.2.1, x.2.2.2.2.1, x.2.2.2.2.2.1, x.2.2.2.2.2.2.1, ())) (T.opt (lget x.2.2.2.2.1 y.2.1) fun y_1 => T.opt (lget x.2.2.2.2.1 y.2.2.1) fun y_2 => T.opt (ref04_Join (y_1.fst, y_2.fst)) fun y_3 => T.opt (ref04_Is (y_3, y.1)) fun y => T.ite (!y) (T.ret (Ex.ret, x.1, false, x.2.2.1, x.2.2.2.1, x.2.2.2.2.1, x.2.2.2.2.2.1, x.2.2.2.2.2.2.1, ())) (T.ret (Ex.normal, x.1, x.2.1, x.2.2.1, x.2.2.2.1, x.2.2.2.2.1, x.2.2.2.2.2.1, W (x.2.2.2.2.2.2.1 + (1 : Int)), ()))))) (T.ret (Ex.exit (2 : Nat), x.1, x.2.1, x.2.2.1, x.2.2.2.1, x.2.2.2.2.1, x.2.2.2.2.2.1, x.2.2.2.2.2.2.1, ()))
noncomputable def law12_BvhSound.l2 (x : (List ((Option Nat × Option Nat × Option Nat) × (Option Nat × Option Nat × Option Nat) × Option Nat × Option Nat × Option Nat)) × Bool × ((List (((Option Nat × Option Nat × Option Nat) × Option Nat × Option Nat × Option Nat) × Int × Int × Int × Int)) × List (Int)) × (List (Int)) × (List (((Option Nat × Option Nat × Option Nat) × Option Nat × Option Nat × Option Nat) × Int × Int × Int × Int)) × Int × Int × Unit) : Option (Ex × (List ((Option Nat × Option Nat × Option Nat) × (Option Nat × Option Nat × Option Nat) × Option Nat × Option Nat × Option Nat)) × Bool × ((List (((Option Nat × Option Nat × Option Nat) × Option Nat × Option Nat × Option Nat) × Int × Int × Int × Int)) × List (Int)) × (List (Int)) × (List (((Option Nat × Option Nat × Option Nat) × Option Nat × Option Nat × Option Nat) × Int × Int × Int × Int)) × Int × Int × Unit) := (iterT law12_BvhSound.t2 rounds x).run
theorem law12_BvhSound.k2 : bodies 2 (lp Try.f3 []) = [.loop (loopIn 2 (lp Try.f3 []))] ∧ WP Try.prog 0 (.block 2 (.loop (loopIn 2 (lp Try.f3 [])))) (loopS law12_BvhSound.L2 192 2 [.exit 2, .ret] law12_BvhSound.l2) :=
  loop_tree (L := law12_BvhSound.L2) (F := ({ quiet := (ext (ext (ext (ext (ext (ext (ext (ext (ext (ext (ext (ext (ext (ext (ext (ext (ext (ext (ext Xs 5 law12_few.q) 6 ref12_May.q) 7 law12_awake.q) 8 bvh_New.q) 9 bvh_Tree_Order.q) 11 law12_rise.q) 12 law12_all.q) 10 ref01_Ints.q) 13 bvh_Tree_Nodes.q) 14 ref04_Of.q) 16 ref04_Join.q) 15 ref04_Is.q) 17 bvh_Tree_Root.q) 18 bvh_Tree_Depth.q) 48 vec_Add_1.q) 54 bvh_builder_median_1.q) 56 bvh_builder_median_2.q) 63 vec_Mul_1.q) 75 vec_Sub_1.q), deep := noDeep } : Fns)) (D := D0) (tab := [(4, loopS law12_BvhSound.L4 192 4 [.exit 4, .ret] law12_BvhSound.l4)]) (t := law12_BvhSound.t2) mixed (quiet_ext (quiet_ext (quiet_ext (quiet_ext (quiet_ext (quiet_ext (quiet_ext (quiet_ext (quiet_ext (quiet_ext (quiet_ext (quiet_ext (quiet_ext (quiet_ext (quiet_ext (quiet_ext (quiet_ext (quiet_ext (quiet_ext Xok law12_few.ok) ref12_May.ok) law12_awake.ok) bvh_New.ok) bvh_Tree_Order.ok) law12_rise.ok) law12_all.ok) ref01_Ints.ok) bvh_Tree_Nodes.ok) ref04_Of.ok) ref04_Join.ok) ref04_Is.ok) bvh_Tree_Root.ok) bvh_Tree_Depth.ok) vec_Add_1.ok) bvh_builder_median_1.ok) bvh_builder_median_2.ok) vec_Mul_1.ok) vec_Sub_1.ok) (deep_none _) (fun _ => rfl) (by kernel_rfl) (by kernel_rfl) ⟨law12_BvhSound.k4, trivial⟩ (fun x => by kernel_rfl)
noncomputable def law12_BvhSound.t (x : (List ((Option Nat × Option Nat × Option Nat) × (Option Nat × Option Nat × Option Nat) × Option Nat × Option Nat × Option Nat)) × Bool) : T (Bool) := T.opt (law12_few (x.1, (200 : Int))) fun y => T.opt (law12_BvhSound.l0 (y, x.2, false, (0 : Int), ())) fun y => T.ite (exEq y.1 (Ex.exit (0 : Nat))) (T.opt (bvh_New (y.2.1, y.2.2.1)) fun y_1 => T.ite y_1.fst.isNone (T.ret false) (T.opt y_1.fst fun y_2 => T.ite (y_1.snd != (0 : Int)) (T.ret false) (T.opt (bvh_Tree_Order y_2) fun y_3 => T.opt (law12_rise y_3) fun y_4 => T.opt (law12_all (↑(List.length y.2.1) : Int)) fun y_5 => T.opt (ref01_Ints (y_4, y_5)) fun y_6 => T.ite (!y_6) (T.ret false) (T.opt (bvh_Tree_Nodes y_2) fun y_7 => T.opt (law12_BvhSound.l2 (y.2.1, y.2.2.2.1, y_2, y_3, y_7, (0 : Int), (0 : Int), ())) fun y => T.ite (exEq y.1 (Ex.exit (2 : Nat))) (T.opt (bvh_Tree_Root y.2.2.2.1) fun y_8 => T.ite (y.2.2.2.2.2.2.1 == (↑(List.length y.2.1) : Int) && y_8.snd) (T.opt (lget y.2.2.2.2.2.1 (0 : Int)) fun y_9 => T.ite (ford y_8.fst.fst.fst.fst y_9.fst.fst.fst == some Ordering.eq && (ford y_8.fst.fst.fst.snd.fst y_9.fst.fst.snd.fst == some Ordering.eq && ford y_8.fst.fst.fst.snd.snd y_9.fst.fst.snd.snd == some Ordering.eq) && (ford y_8.fst.fst.snd.fst y_9.fst.snd.fst == some Ordering.eq && (ford y_8.fst.fst.snd.snd.fst y_9.fst.snd.snd.fst == some Ordering.eq && ford y_8.fst.fst.snd.snd.snd y_9.fst.snd.snd.snd == some Ordering.eq)) && (y_8.fst.snd.fst == y_9.snd.fst && (y_8.fst.snd.snd.fst == y_9.snd.snd.fst && (y_8.fst.snd.snd.snd.fst == y_9.snd.snd.snd.fst && y_8.fst.snd.snd.snd.snd == y_9.snd.snd.snd.snd)))) (T.opt (bvh_Tree_Depth y.2.2.2.1) fun y_10 => T.ite (decide (y_10 ≤ (↑(List.length y.2.2.2.2.2.1) : Int))) (T.opt (bvh_Tree_Depth y.2.2.2.1) fun y => T.ret (decide (y ≥ (1 : Int)))) (T.ret false)) (T.ret false)) (T.ret false)) (T.ite (exEq y.1 Ex.ret) (T.ret y.2.2.1) T.fail))))) (T.ite (exEq y.1 Ex.ret) (T.ret y.2.2.2.1) T.fail)
noncomputable def law12_BvhSound (x : (List ((Option Nat × Option Nat × Option Nat) × (Option Nat × Option Nat × Option Nat) × Option Nat × Option Nat × Option Nat)) × Bool) : Option (Bool) := (law12_BvhSound.t x).run
noncomputable def law12_BvhSound.q : List AV → T AV := entry [(.sl TTri), .bool] (outR [.bool]) fun x => .opt (law12_BvhSound x) .ret
theorem law12_BvhSound.ok : FnOK Try.prog 3 law12_BvhSound.q :=
  entry_call (ps := [(.sl TTri), .bool]) (rs := [.bool]) (F := ({ quiet := (ext (ext (ext (ext (ext (ext (ext (ext (ext (ext (ext (ext (ext (ext (ext (ext (ext (ext (ext Xs 5 law12_few.q) 6 ref12_May.q) 7 law12_awake.q) 8 bvh_New.q) 9 bvh_Tree_Order.q) 11 law12_rise.q) 12 law12_all.q) 10 ref01_Ints.q) 13 bvh_Tree_Nodes.q) 14 ref04_Of.q) 16 ref04_Join.q) 15 ref04_Is.q) 17 bvh_Tree_Root.q) 18 bvh_Tree_Depth.q) 48 vec_Add_1.q) 54 bvh_builder_median_1.q) 56 bvh_builder_median_2.q) 63 vec_Mul_1.q) 75 vec_Sub_1.q), deep := noDeep } : Fns)) (D := D0) (S := tabS [(0, loopS law12_BvhSound.L0 192 0 [.exit 0, .ret] law12_BvhSound.l0), (2, loopS law12_BvhSound.L2 192 2 [.exit 2, .ret] law12_BvhSound.l2)]) (t := law12_BvhSound.t) mixed (quiet_ext (quiet_ext (quiet_ext (quiet_ext (quiet_ext (quiet_ext (quiet_ext (quiet_ext (quiet_ext (quiet_ext (quiet_ext (quiet_ext (quiet_ext (quiet_ext (quiet_ext (quiet_ext (quiet_ext (quiet_ext (quiet_ext Xok law12_few.ok) ref12_May.ok) law12_awake.ok) bvh_New.ok) bvh_Tree_Order.ok) law12_rise.ok) law12_all.ok) ref01_Ints.ok) bvh_Tree_Nodes.ok) ref04_Of.ok) ref04_Join.ok) ref04_Is.ok) bvh_Tree_Root.ok) bvh_Tree_Depth.ok) vec_Add_1.ok) bvh_builder_median_1.ok) bvh_builder_median_2.ok) vec_Mul_1.ok) vec_Sub_1.ok) (deep_none _) Try.func3 (by kernel_rfl) (sok_fn ⟨law12_BvhSound.k0, law12_BvhSound.k2, trivial⟩) (by kernel_rfl) (fun x => by kernel_rfl)
end Go.Proofs.Pen

namespace Go.Proofs.Pen
open Go Go.Proofs

theorem tr_yes {α : Type} {c : Bool} {a b : T α} (h : c = true) : (T.ite c a b).run = a.run := by rw [tr_ite, h, if_pos rfl]
theorem tr_no {α : Type} {c : Bool} {a b : T α} (h : c = false) : (T.ite c a b).run = b.run := by rw [tr_ite, h, if_neg (by simp)]

abbrev Fl := Option Nat
abbrev V3 := Fl × Fl × Fl
abbrev Bx := V3 × V3
abbrev Tr := V3 × V3 × V3
abbrev Nd := Bx × Int × Int × Int × Int

abbrev f0 : Fl := some 0
abbrev fInf : Fl := some 9218868437227405312
abbrev fNeg : Fl := some 18442240474082181120
abbrev fHalf : Fl := some 4602678819172646912
abbrev K20 : Int := 4697254411347427328
def flt (a b : Fl) : Bool := ford a b == some .lt
def feq (a b : Fl) : Bool := ford a b == some .eq
def fle (a b : Fl) : Bool := ford a b == some .lt || ford a b == some .eq
def fge (a b : Fl) : Bool := ford a b == some .gt || ford a b == some .eq
def fgt (a b : Fl) : Bool := ford a b == some .gt
def fLow (a b : Fl) : Fl := if flt b a then b else a
def fHigh (a b : Fl) : Fl := if fgt b a then b else a
def vSub (a b : V3) : V3 := (fop .sub a.1 b.1, fop .sub a.2.1 b.2.1, fop .sub a.2.2 b.2.2)
def vAdd (a b : V3) : V3 := (fop .add a.1 b.1, fop .add a.2.1 b.2.1, fop .add a.2.2 b.2.2)
def bJoin (a b : Bx) : Bx := ((fLow a.1.1 b.1.1, fLow a.1.2.1 b.1.2.1, fLow a.1.2.2 b.1.2.2), fHigh a.2.1 b.2.1, fHigh a.2.2.1 b.2.2.1, fHigh a.2.2.2 b.2.2.2)
def bNone : Bx := ((fInf, fInf, fInf), fNeg, fNeg, fNeg)
def bGrow (b : Bx) (p : V3) : Bx := bJoin b (p, p)
def bOf (t : Tr) : Bx := bGrow (bGrow (bGrow bNone t.1) t.2.1) t.2.2
def bMid (b : Bx) : V3 := (fop .mul (fop .add b.1.1 b.2.1) fHalf, fop .mul (fop .add b.1.2.1 b.2.2.1) fHalf, fop .mul (fop .add b.1.2.2 b.2.2.2) fHalf)
def tMid (t : Tr) : V3 := bMid (bOf t)
def part (v : V3) (k : Int) : Fl := if k == 0 then v.1 else if k == 1 then v.2.1 else v.2.2

theorem okey_lit {n : Nat} {i : Int} (h1 : frung n ≤ 9218868437227405311 + 1) (h2 : fkey n = i) : okey (some n) = some i := by
  simp only [okey]; rw [if_pos h1, h2]
theorem okey_inf : okey fInf = some 9218868437227405312 := okey_lit (by decide) (by decide)
theorem okey_neg : okey fNeg = some (-9218868437227405312) := okey_lit (by decide) (by decide)
theorem okey_half : okey fHalf = some 4602678819172646912 := okey_lit (by decide) (by decide)
theorem okey_m20 : okey (some 13920626448202203136) = some (-K20) := okey_lit (by decide) (by decide)
theorem okey_p20 : okey (some 4697254411347427328) = some K20 := okey_lit (by decide) (by decide)

theorem math_Inf_eq : math_Inf 1 = some fInf := rfl
theorem math_Ninf_eq : math_Inf (-1) = some fNeg := rfl
theorem neg_inf : Option.map (Op.negFloat FloatKind.f64) fInf = fNeg := by decide +kernel

theorem box_less_eq (a b : Fl) : box_less (a, b) = some (fLow a b) := by
  unfold box_less box_less.t fLow flt
  simp only [tr_ite, tr_ret]
  split <;> rfl
theorem box_more_eq (a b : Fl) : box_more (a, b) = some (fHigh a b) := by
  unfold box_more box_more.t fHigh fgt
  simp only [tr_ite, tr_ret]
  split <;> rfl
theorem ref04_Low_eq (a b : Fl) : ref04_Low (a, b) = some (fLow a b) := by
  unfold ref04_Low ref04_Low.t fLow flt
  simp only [tr_ite, tr_ret]
  split <;> rfl
theorem ref04_High_eq (a b : Fl) : ref04_High (a, b) = some (fHigh a b) := by
  unfold ref04_High ref04_High.t fHigh fgt
  simp only [tr_ite, tr_ret]
  split <;> rfl
theorem box_Empty_eq (u : Unit) : box_Empty u = some bNone := by
  unfold box_Empty box_Empty.t
  simp only [tr_opt, math_Inf_eq, Option.bind_some, tr_ret, neg_inf]
  rfl
theorem ref04_Empty_eq (u : Unit) : ref04_Empty u = some bNone := by
  unfold ref04_Empty ref04_Empty.t
  simp only [tr_opt, math_Inf_eq, math_Ninf_eq, Option.bind_some, tr_ret]
  rfl
theorem box_Join_eq (a b : Bx) : box_Join (a, b) = some (bJoin a b) := by
  unfold box_Join box_Join.t bJoin
  simp only [tr_opt, box_less_eq, box_more_eq, Option.bind_some, tr_ret]
theorem ref04_Join_eq (a b : Bx) : ref04_Join (a, b) = some (bJoin a b) := by
  unfold ref04_Join ref04_Join.t bJoin
  simp only [tr_opt, ref04_Low_eq, ref04_High_eq, Option.bind_some, tr_ret]
theorem box_Grow_eq (b : Bx) (p : V3) : box_Grow (b, p) = some (bGrow b p) := by
  unfold box_Grow box_Grow.t bGrow
  simp only [tr_opt, box_Join_eq, Option.bind_some, tr_ret]
theorem box_Of_eq (t : Tr) : box_Of t = some (bOf t) := by
  unfold box_Of box_Of.t bOf
  simp only [tr_opt, box_Empty_eq, box_Grow_eq, Option.bind_some, tr_ret]
theorem ref04_Of_eq (t : Tr) : ref04_Of t = some (bOf t) := by
  unfold ref04_Of ref04_Of.t bOf bGrow
  simp only [tr_opt, ref04_Empty_eq, ref04_Join_eq, Option.bind_some, tr_ret]
theorem vec_Sub_eq (a b : V3) : vec_Sub (a, b) = some (vSub a b) := rfl
theorem vec_Add_eq (a b : V3) : vec_Add (a, b) = some (vAdd a b) := rfl
theorem box_Mid_eq (b : Bx) : box_Mid b = some (bMid b) := by
  unfold box_Mid box_Mid.t bMid
  rw [tr_opt, show vec_Add b = some (vAdd b.1 b.2) from vec_Add_eq b.1 b.2, Option.bind_some, tr_ret]
  rfl
theorem vec_Part_eq (v : V3) (k : Int) : vec_Part (v, k) = some (part v k) := by
  unfold vec_Part vec_Part.t part
  simp only [tr_ite, tr_ret]
  split
  · rfl
  · split <;> rfl
def fMay (a : Fl) : Bool := fge a (some 13920626448202203136) && fle a (some 4697254411347427328)
def vMay (v : V3) : Bool := fMay v.1 && fMay v.2.1 && fMay v.2.2
def tMay (t : Tr) : Bool := vMay t.1 && vMay t.2.1 && vMay t.2.2

theorem may_step (w : Bool) (L : List V3) (i : Nat) (hi : i < L.length) (hL : L.length = 3) : (ref12_May.t0 (w, L, (i : Int), ())).run = some (if vMay L[i] then (.normal, w, L, ((i + 1 : Nat) : Int), ()) else (.ret, false, L, (i : Int), ())) := by
  have hc : (decide ((0 : Int) ≤ (i : Int)) && decide ((i : Int) < (L.length : Int))) = true := by simp; omega
  have hg : L[0 + Int.toNat (i : Int)]? = some L[i] := by rw [Nat.zero_add, Int.toNat_natCast, List.getElem?_eq_getElem hi]
  have hw : W ((i : Int) + 1) = ((i + 1 : Nat) : Int) := by rw [W_id (by omega) (by omega)]; omega
  have e1 : ∀ a : Fl, (ford a (some 13920626448202203136) == some Ordering.gt || ford a (some 13920626448202203136) == some Ordering.eq) = fge a (some 13920626448202203136) := fun _ => rfl
  have e2 : ∀ a : Fl, (ford a (some 4697254411347427328) == some Ordering.lt || ford a (some 4697254411347427328) == some Ordering.eq) = fle a (some 4697254411347427328) := fun _ => rfl
  unfold ref12_May.t0
  dsimp only
  rw [tr_yes (by simp; omega), hc]
  simp only [hg, hw, tr_ite, tr_opt, tr_ret, if_true, Option.bind_some, e1, e2, List.take_length]
  unfold vMay fMay
  cases fge L[i].1 (some 13920626448202203136) <;> cases fle L[i].1 (some 4697254411347427328) <;> cases fge L[i].2.1 (some 13920626448202203136) <;> cases fle L[i].2.1 (some 4697254411347427328) <;> cases fge L[i].2.2 (some 13920626448202203136) <;> cases fle L[i].2.2 (some 4697254411347427328) <;> rfl

theorem ref12_May_eq (t : Tr) : ref12_May t = some (tMay t) := by
  unfold ref12_May ref12_May.t
  rw [tr_opt]
  have h := iter_scan (t := ref12_May.t0) [t.1, t.2.1, t.2.2] vMay (fun k => (false, [t.1, t.2.1, t.2.2], (k : Int), ())) (fun k => (false, [t.1, t.2.1, t.2.2], (k : Int), ())) (false, [t.1, t.2.1, t.2.2], (3 : Int), ()) .ret (.exit 0)
    (fun i hi => may_step false _ i hi rfl) (by
      unfold ref12_May.t0
      rw [tr_no (by rfl), tr_ret]; rfl) (by simp) (by simp) (m := rounds) (rounds_gt (by simp))
  have hl : ref12_May.l0 (false, List.take 3 [t.1, t.2.1, t.2.2], 0, ()) = (iterT ref12_May.t0 rounds (false, [t.1, t.2.1, t.2.2], ((0 : Nat) : Int), ())).run := rfl
  have ha : [t.1, t.2.1, t.2.2].all vMay = tMay t := by simp [tMay, Bool.and_assoc]
  rw [ha] at h
  rcases h with ⟨h1, h2⟩ | ⟨h1, i, h2⟩
  · rw [hl, h2, h1, Option.bind_some, tr_yes (by rfl), tr_ret]
  · rw [hl, h2, h1, Option.bind_some, tr_no (by rfl), tr_yes (by rfl), tr_ret]
end Go.Proofs.Pen

namespace Go.Proofs.Pen
open Go Go.Proofs

theorem mayA_step (w : Bool) (v : V3) (t : Tr) (j : Int) (i : Nat) (hi : i < [v.1, v.2.1, v.2.2].length) : (bvh_may.t2 (w, v, t, j, (i : Int), ())).run = some (if fMay [v.1, v.2.1, v.2.2][i] then (.normal, w, v, t, j, ((i + 1 : Nat) : Int), ()) else (.ret, false, v, t, j, (i : Int), ())) := by
  have hi3 : i < 3 := hi
  have hw : W ((i : Int) + 1) = ((i + 1 : Nat) : Int) := by rw [W_id (by omega) (by omega)]; omega
  have e1 : ∀ a : Fl, ((ford a (some 13920626448202203136) == some Ordering.gt || ford a (some 13920626448202203136) == some Ordering.eq) && (ford a (some 4697254411347427328) == some Ordering.lt || ford a (some 4697254411347427328) == some Ordering.eq)) = fMay a := fun _ => rfl
  have hp : part v (i : Int) = [v.1, v.2.1, v.2.2][i] := by
    match i, hi with
    | 0, _ => rfl
    | 1, _ => rfl
    | 2, _ => rfl
  unfold bvh_may.t2
  dsimp only
  rw [tr_yes (by simp; omega), tr_opt, vec_Part_eq, Option.bind_some, hp, hw, e1]
  generalize fMay _ = b
  cases b
  · rw [tr_yes (by rfl), tr_ret]; rfl
  · rw [tr_no (by rfl), tr_ret]; rfl
theorem mayA_eq (w : Bool) (v : V3) (t : Tr) (j : Int) : (vMay v = true ∧ bvh_may.l2 (w, v, t, j, 0, ()) = some (.exit 2, w, v, t, j, 3, ())) ∨ (vMay v = false ∧ ∃ i : Nat, bvh_may.l2 (w, v, t, j, 0, ()) = some (.ret, false, v, t, j, (i : Int), ())) := by
  have h := iter_scan (t := bvh_may.t2) [v.1, v.2.1, v.2.2] fMay (fun k => (w, v, t, j, (k : Int), ())) (fun k => (false, v, t, j, (k : Int), ())) (w, v, t, j, (3 : Int), ()) .ret (.exit 2)
    (fun i hi => mayA_step w v t j i hi) (by unfold bvh_may.t2; rw [tr_no (by rfl), tr_ret]; rfl) (by simp) (by simp) (m := rounds) (rounds_gt (by simp))
  have ha : [v.1, v.2.1, v.2.2].all fMay = vMay v := by simp [vMay, Bool.and_assoc]
  rw [ha] at h
  rcases h with ⟨h1, h2⟩ | ⟨h1, i, h2⟩
  · exact .inl ⟨h1, h2⟩
  · exact .inr ⟨h1, i, h2⟩
theorem mayB_step (w : Bool) (t : Tr) (i : Nat) (hi : i < [t.1, t.2.1, t.2.2].length) : (bvh_may.t0 (w, t, (i : Int), ())).run = some (if vMay [t.1, t.2.1, t.2.2][i] then (.normal, w, t, ((i + 1 : Nat) : Int), ()) else (.ret, false, t, (i : Int), ())) := by
  have hi3 : i < 3 := hi
  have hw : W ((i : Int) + 1) = ((i + 1 : Nat) : Int) := by rw [W_id (by omega) (by omega)]; omega
  have key : ∀ v : V3, ((T.opt (bvh_may.l2 (w, v, t, (i : Int), 0, ())) fun y => T.ite (exEq y.1 (Ex.exit 2)) (T.ret (Ex.normal, y.2.1, y.2.2.2.1, W (y.2.2.2.2.1 + 1), ())) (T.ite (exEq y.1 Ex.ret) (T.ret (Ex.ret, y.2.1, y.2.2.2.1, y.2.2.2.2.1, ())) T.fail)).run) = some (if vMay v then (Ex.normal, w, t, ((i + 1 : Nat) : Int), ()) else (Ex.ret, false, t, (i : Int), ())) := fun v => by
    rcases mayA_eq w v t (i : Int) with ⟨h1, h2⟩ | ⟨h1, k, h2⟩
    · rw [tr_opt, h2, Option.bind_some, tr_yes (by rfl), tr_ret, h1]; simp only [hw]; rfl
    · rw [tr_opt, h2, Option.bind_some, tr_no (by rfl), tr_yes (by rfl), tr_ret, h1]; rfl
  unfold bvh_may.t0
  dsimp only
  rw [tr_yes (by simp; omega)]
  have h012 : i = 0 ∨ i = 1 ∨ i = 2 := by omega
  rcases h012 with rfl | rfl | rfl
  · rw [tr_yes (by rfl)]; exact key t.1
  · rw [tr_no (by rfl), tr_yes (by rfl)]; exact key t.2.1
  · rw [tr_no (by rfl), tr_no (by rfl), tr_yes (by rfl)]; exact key t.2.2
theorem bvh_may_eq (t : Tr) : bvh_may t = some (tMay t) := by
  unfold bvh_may bvh_may.t
  rw [tr_opt]
  have h := iter_scan (t := bvh_may.t0) [t.1, t.2.1, t.2.2] vMay (fun k => (false, t, (k : Int), ())) (fun k => (false, t, (k : Int), ())) (false, t, (3 : Int), ()) .ret (.exit 0)
    (fun i hi => mayB_step false t i hi) (by unfold bvh_may.t0; rw [tr_no (by rfl), tr_ret]; rfl) (by simp) (by simp) (m := rounds) (rounds_gt (by simp))
  have hl : bvh_may.l0 (false, t, 0, ()) = (iterT bvh_may.t0 rounds (false, t, ((0 : Nat) : Int), ())).run := rfl
  have ha : [t.1, t.2.1, t.2.2].all vMay = tMay t := by simp [tMay, Bool.and_assoc]
  rw [ha] at h
  rcases h with ⟨h1, h2⟩ | ⟨h1, i, h2⟩
  · rw [hl, h2, h1, Option.bind_some, tr_yes (by rfl), tr_ret]
  · rw [hl, h2, h1, Option.bind_some, tr_no (by rfl), tr_yes (by rfl), tr_ret]

theorem K20_eq : K20 = 4697254411347427328 := rfl
def kx (a : Fl) : Int := (okey a).getD 0
theorem kx_of {a : Fl} {i : Int} (h : okey a = some i) : kx a = i := by unfold kx; rw [h]; rfl
def okK (a : Fl) : Prop := okey a = some (kx a) ∧ -K20 ≤ kx a ∧ kx a ≤ K20
theorem okK_of {a : Fl} {i : Int} (h : okey a = some i) (h1 : -K20 ≤ i) (h2 : i ≤ K20) : okK a := by
  have := kx_of h
  unfold okK; rw [this]; exact ⟨h, h1, h2⟩
theorem okK_may {a : Fl} (h : fMay a = true) : okK a := by
  unfold fMay fge fle at h
  rw [Bool.and_eq_true, ford_ge, ford_le, okey_m20, okey_p20] at h
  cases e : okey a with
  | none => rw [e] at h; cases h.1
  | some i =>
    rw [e] at h
    unfold kle at h
    exact okK_of e (by simpa using h.1) (by simpa using h.2)
theorem flt_kx {a b : Fl} (ha : okK a) (hb : okK b) : flt a b = decide (kx a < kx b) := by
  unfold flt; rw [ford_lt, ha.1, hb.1]; rfl
theorem fgt_kx {a b : Fl} (ha : okK a) (hb : okK b) : fgt a b = decide (kx b < kx a) := by
  unfold fgt; rw [ford_gt, ha.1, hb.1]; rfl
theorem feq_kx {a b : Fl} (ha : okK a) (hb : okK b) : feq a b = decide (kx a = kx b) := by
  unfold feq; rw [ford_eqk, ha.1, hb.1]; rfl
theorem low_none {a : Fl} (ha : okK a) : fLow fInf a = a := by
  have h : flt a fInf = true := by unfold flt; rw [ford_lt, ha.1, okey_inf]; unfold klt; have := ha.2.2; have := K20_eq; simp; omega
  unfold fLow; rw [h, if_pos rfl]
theorem high_none {a : Fl} (ha : okK a) : fHigh fNeg a = a := by
  have h : fgt a fNeg = true := by unfold fgt; rw [ford_gt, ha.1, okey_neg]; unfold klt; have := ha.2.1; have := K20_eq; simp; omega
  unfold fHigh; rw [h, if_pos rfl]
theorem low_kx {a b : Fl} (ha : okK a) (hb : okK b) : okK (fLow a b) ∧ kx (fLow a b) ≤ kx a ∧ kx (fLow a b) ≤ kx b := by
  unfold fLow
  rw [flt_kx hb ha]
  split
  · rename_i h; have := of_decide_eq_true h; exact ⟨hb, by omega, by omega⟩
  · rename_i h; have : ¬ kx b < kx a := fun e => h (decide_eq_true e); exact ⟨ha, by omega, by omega⟩
theorem high_kx {a b : Fl} (ha : okK a) (hb : okK b) : okK (fHigh a b) ∧ kx a ≤ kx (fHigh a b) ∧ kx b ≤ kx (fHigh a b) := by
  unfold fHigh
  rw [fgt_kx hb ha]
  split
  · rename_i h; have := of_decide_eq_true h; exact ⟨hb, by omega, by omega⟩
  · rename_i h; have : ¬ kx a < kx b := fun e => h (decide_eq_true e); exact ⟨ha, by omega, by omega⟩

def okA (l h : Fl) : Prop := okK l ∧ okK h ∧ kx l ≤ kx h
def okB (b : Bx) : Prop := okA b.1.1 b.2.1 ∧ okA b.1.2.1 b.2.2.1 ∧ okA b.1.2.2 b.2.2.2
def inA (l h l' h' : Fl) : Prop := kx l' ≤ kx l ∧ kx h ≤ kx h'
def inB (b c : Bx) : Prop := inA b.1.1 b.2.1 c.1.1 c.2.1 ∧ inA b.1.2.1 b.2.2.1 c.1.2.1 c.2.2.1 ∧ inA b.1.2.2 b.2.2.2 c.1.2.2 c.2.2.2
theorem join_A {l h l' h' : Fl} (a : okA l h) (b : okA l' h') : okA (fLow l l') (fHigh h h') ∧ inA l h (fLow l l') (fHigh h h') ∧ inA l' h' (fLow l l') (fHigh h h') := by
  obtain ⟨a1, a2, a3⟩ := low_kx a.1 b.1
  obtain ⟨b1, b2, b3⟩ := high_kx a.2.1 b.2.1
  have := a.2.2
  have := b.2.2
  exact ⟨⟨a1, b1, by omega⟩, ⟨a2, b2⟩, ⟨a3, b3⟩⟩
theorem join_B {b c : Bx} (hb : okB b) (hc : okB c) : okB (bJoin b c) ∧ inB b (bJoin b c) ∧ inB c (bJoin b c) := by
  obtain ⟨x1, x2, x3⟩ := join_A hb.1 hc.1
  obtain ⟨y1, y2, y3⟩ := join_A hb.2.1 hc.2.1
  obtain ⟨z1, z2, z3⟩ := join_A hb.2.2 hc.2.2
  exact ⟨⟨x1, y1, z1⟩, ⟨x2, y2, z2⟩, ⟨x3, y3, z3⟩⟩
theorem join_none {b : Bx} (hb : okB b) : bJoin bNone b = b := by
  unfold bJoin bNone
  simp only [low_none hb.1.1, low_none hb.2.1.1, low_none hb.2.2.1, high_none hb.1.2.1, high_none hb.2.1.2.1, high_none hb.2.2.2.1]
theorem inB_refl (b : Bx) : inB b b := ⟨⟨Int.le_refl _, Int.le_refl _⟩, ⟨Int.le_refl _, Int.le_refl _⟩, ⟨Int.le_refl _, Int.le_refl _⟩⟩
theorem inB_trans {a b c : Bx} (h : inB a b) (k : inB b c) : inB a c :=
  ⟨⟨Int.le_trans k.1.1 h.1.1, Int.le_trans h.1.2 k.1.2⟩, ⟨Int.le_trans k.2.1.1 h.2.1.1, Int.le_trans h.2.1.2 k.2.1.2⟩, ⟨Int.le_trans k.2.2.1 h.2.2.1, Int.le_trans h.2.2.2 k.2.2.2⟩⟩
def okV (v : V3) : Prop := okK v.1 ∧ okK v.2.1 ∧ okK v.2.2
theorem okV_may {v : V3} (h : vMay v = true) : okV v := by
  unfold vMay at h
  rw [Bool.and_eq_true, Bool.and_eq_true] at h
  exact ⟨okK_may h.1.1, okK_may h.1.2, okK_may h.2⟩
theorem okB_pt {v : V3} (h : okV v) : okB (v, v) := ⟨⟨h.1, h.1, Int.le_refl _⟩, ⟨h.2.1, h.2.1, Int.le_refl _⟩, ⟨h.2.2, h.2.2, Int.le_refl _⟩⟩

def bAll (l : List Bx) : Bx := l.foldl bJoin bNone
theorem fold_B : ∀ (l : List Bx) (a : Bx), okB a → (∀ b ∈ l, okB b) → okB (l.foldl bJoin a) ∧ inB a (l.foldl bJoin a) ∧ ∀ b ∈ l, inB b (l.foldl bJoin a)
  | [], a, ha, _ => ⟨ha, inB_refl a, fun b h => by cases h⟩
  | c :: l, a, ha, h => by
    obtain ⟨j1, j2, j3⟩ := join_B ha (h c (.head _))
    obtain ⟨k1, k2, k3⟩ := fold_B l (bJoin a c) j1 fun b hb => h b (.tail _ hb)
    refine ⟨k1, inB_trans j2 k2, fun b hb => ?_⟩
    rcases List.mem_cons.1 hb with rfl | hb
    · exact inB_trans j3 k2
    · exact k3 b hb
theorem bAll_ok {l : List Bx} (hne : l ≠ []) (h : ∀ b ∈ l, okB b) : okB (bAll l) ∧ ∀ b ∈ l, inB b (bAll l) := by
  cases l with
  | nil => exact absurd rfl hne
  | cons c l =>
    unfold bAll
    rw [List.foldl_cons, join_none (h c (.head _))]
    obtain ⟨k1, k2, k3⟩ := fold_B l c (h c (.head _)) fun b hb => h b (.tail _ hb)
    refine ⟨k1, fun b hb => ?_⟩
    rcases List.mem_cons.1 hb with rfl | hb
    · exact k2
    · exact k3 b hb
theorem bOf_ok {t : Tr} (h : tMay t = true) : okB (bOf t) := by
  unfold tMay at h
  rw [Bool.and_eq_true, Bool.and_eq_true] at h
  have h1 := okB_pt (okV_may h.1.1)
  have h2 := okB_pt (okV_may h.1.2)
  have h3 := okB_pt (okV_may h.2)
  unfold bOf bGrow
  rw [join_none h1]
  exact (join_B (join_B h1 h2).1 h3).1

theorem sum_edge : RR (valI K20 + valI K20) = 4701758010974797824 := by kernel_rfl
theorem sum_edge' : RR (-(valI K20 + valI K20)) = -4701758010974797824 := by kernel_rfl
theorem mul_edge : MM (valI 4701758010974797824 * valI 4602678819172646912) = K20 := by kernel_rfl
theorem mul_edge' : MM (valI (-4701758010974797824) * valI 4602678819172646912) = -K20 := by kernel_rfl
theorem valI_bd {i : Int} (h1 : -K20 ≤ i) (h2 : i ≤ K20) : -valI K20 ≤ valI i ∧ valI i ≤ valI K20 := by
  have a := valI_mono h2
  have b := valI_mono h1
  have c : valI (-K20) = -valI K20 := by kernel_rfl
  omega
theorem mid_ok {a b : Fl} (ha : okK a) (hb : okK b) : okK (fop .mul (fop .add a b) fHalf) := by
  have hK := K20_eq
  have h1 := add_key ha.1 hb.1 (by have := ha.2; omega) (by have := hb.2; omega)
  have a1 := valI_bd ha.2.1 ha.2.2
  have b1 := valI_bd hb.2.1 hb.2.2
  have u : RR (valI (kx a) + valI (kx b)) ≤ 4701758010974797824 := by rw [← sum_edge]; exact RR_mono (by omega)
  have l : -4701758010974797824 ≤ RR (valI (kx a) + valI (kx b)) := by rw [← sum_edge']; exact RR_mono (by omega)
  have h2 := mul_key h1 okey_half (by omega) (by decide)
  have hp : 0 ≤ valI 4602678819172646912 := by rw [← show valI 0 = 0 from by kernel_rfl]; exact valI_mono (by decide)
  refine okK_of h2 ?_ ?_
  · rw [← mul_edge']; exact MM_mono (Int.mul_le_mul_of_nonneg_right (valI_mono l) hp)
  · rw [← mul_edge]; exact MM_mono (Int.mul_le_mul_of_nonneg_right (valI_mono u) hp)
theorem bMid_ok {b : Bx} (h : okB b) : okV (bMid b) := ⟨mid_ok h.1.1 h.1.2.1, mid_ok h.2.1.1 h.2.1.2.1, mid_ok h.2.2.1 h.2.2.2.1⟩
theorem tMid_ok {t : Tr} (h : tMay t = true) : okV (tMid t) := bMid_ok (bOf_ok h)
end Go.Proofs.Pen

namespace Go.Proofs.Pen
open Go Go.Proofs

theorem bind_of {α β : Type} {o : Option α} {f : α → Option β} {y : α} {z : Option β} (h : o = some y) (k : f y = z) : o.bind f = z := by rw [h]; exact k

def tr0 : Tr := ((f0, f0, f0), (f0, f0, f0), f0, f0, f0)
def trA (l : List Tr) (i : Int) : Tr := l.getD i.toNat tr0
def okS (l : List Tr) (s : List Int) : Prop := ∀ i ∈ s, 0 ≤ i ∧ i < (l.length : Int)
theorem lget_map {α : Type} (f : Tr → α) {l : List Tr} {i : Int} (h : 0 ≤ i ∧ i < (l.length : Int)) : lget (l.map f) i = some (f (trA l i)) := by
  obtain ⟨k, rfl⟩ : ∃ k : Nat, i = k := ⟨i.toNat, by omega⟩
  have hk : k < l.length := by omega
  rw [lget_nat _ (by rw [List.length_map]; exact hk), List.getElem_map]
  unfold trA
  rw [Int.toNat_natCast, List.getD_eq_getElem?_getD, List.getElem?_eq_getElem hk, Option.getD_some]
theorem lget_tr {l : List Tr} {i : Int} (h : 0 ≤ i ∧ i < (l.length : Int)) : lget l i = some (trA l i) := by
  have := lget_map id h
  rwa [List.map_id] at this
def bxs (l : List Tr) (s : List Int) : Bx := bAll (s.map fun i => bOf (trA l i))
def mds (l : List Tr) (s : List Int) : Bx := bAll (s.map fun i => (tMid (trA l i), tMid (trA l i)))

theorem bAll_take {α : Type} (f : α → Bx) (s : List α) {k : Nat} (h : k < s.length) : bAll ((s.take (k + 1)).map f) = bJoin (bAll ((s.take k).map f)) (f s[k]) := by
  rw [map_take f s h]
  unfold bAll
  rw [List.foldl_append]; rfl

abbrev z6 : Bx := ((f0, f0, f0), f0, f0, f0)
theorem around_eq (l : List Tr) (M : List V3) (w : Bool) (N : List Nd) (O : List Int) (s : List Int) (hs : okS l s) (hl : s.length < 1000) : bvh_builder_around ((l.map bOf, M, w, N, O), s) = some (bxs l s) := by
  unfold bvh_builder_around bvh_builder_around.t
  rw [tr_opt, box_Empty_eq, Option.bind_some, tr_opt]
  have h := iter_count (t := bvh_builder_around.t0) (fun k => ((l.map bOf, M, w, N, O), z6, bAll ((s.take k).map fun i => bOf (trA l i)), s, (s.length : Int), (k : Int), ())) (e := .exit 0) (z := ((l.map bOf, M, w, N, O), z6, bxs l s, s, (s.length : Int), (s.length : Int), ())) (by simp) s.length 0 rounds (fun k _ hk => by
    have hk : k < s.length := by omega
    unfold bvh_builder_around.t0
    rw [tr_yes (by simp; omega), tr_opt, lget_nat s hk, Option.bind_some, tr_opt, lget_map bOf (hs _ (List.getElem_mem hk)), Option.bind_some, tr_opt, box_Join_eq, Option.bind_some, tr_ret, W_succ (by omega), bAll_take _ s hk]) (by
    unfold bvh_builder_around.t0
    rw [tr_no (by simp), tr_ret, Nat.zero_add, List.take_length]; rfl) (rounds_gt (by omega))
  refine bind_of h ?_
  rw [tr_yes (by rfl), tr_ret]
theorem middles_eq (l : List Tr) (B : List Bx) (w : Bool) (N : List Nd) (O : List Int) (s : List Int) (hs : okS l s) (hl : s.length < 1000) : bvh_builder_middles ((B, l.map tMid, w, N, O), s) = some (mds l s) := by
  unfold bvh_builder_middles bvh_builder_middles.t
  rw [tr_opt, box_Empty_eq, Option.bind_some, tr_opt]
  have h := iter_count (t := bvh_builder_middles.t0) (fun k => ((B, l.map tMid, w, N, O), z6, bAll ((s.take k).map fun i => (tMid (trA l i), tMid (trA l i))), s, (s.length : Int), (k : Int), ())) (e := .exit 0) (z := ((B, l.map tMid, w, N, O), z6, mds l s, s, (s.length : Int), (s.length : Int), ())) (by simp) s.length 0 rounds (fun k _ hk => by
    have hk : k < s.length := by omega
    unfold bvh_builder_middles.t0
    rw [tr_yes (by simp; omega), tr_opt, lget_nat s hk, Option.bind_some, tr_opt, lget_map tMid (hs _ (List.getElem_mem hk)), Option.bind_some, tr_opt, box_Grow_eq, Option.bind_some, tr_ret, W_succ (by omega), bAll_take _ s hk]
    rfl) (by
    unfold bvh_builder_middles.t0
    rw [tr_no (by simp), tr_ret, Nat.zero_add, List.take_length]; rfl) (rounds_gt (by omega))
  refine bind_of h ?_
  rw [tr_yes (by rfl), tr_ret]
def nums (n : Nat) : List Int := (List.range n).map fun (k : Nat) => (k : Int)
theorem nums_succ (n : Nat) : nums (n + 1) = nums n ++ [(n : Int)] := by
  unfold nums; rw [List.range_succ, List.map_append]; rfl
theorem nums_len (n : Nat) : (nums n).length = n := by unfold nums; simp
theorem nums_ok (l : List Tr) : okS l (nums l.length) := by
  intro i hi
  obtain ⟨k, hk, rfl⟩ := List.mem_map.1 hi
  have := List.mem_range.1 hk
  omega
theorem all_eq (n : Nat) (hn : n < 1000) : law12_all (n : Int) = some (nums n) := by
  unfold law12_all law12_all.t
  rw [tr_opt]
  have h := iter_count (t := law12_all.t0) (fun k => ((n : Int), nums k, (k : Int), ())) (e := .exit 0) (z := ((n : Int), nums n, (n : Int), ())) (by simp) n 0 rounds (fun k _ hk => by
    unfold law12_all.t0
    dsimp only
    rw [tr_yes (by simp; omega), nums_len, tr_yes (decide_eq_true (room (by omega) (by decide))), tr_ret, W_succ (by omega), nums_succ]
    have := take_all (nums k) (k : Int)
    rw [nums_len] at this
    rw [this]) (by
    unfold law12_all.t0
    rw [tr_no (by simp), tr_ret, Nat.zero_add, List.take_length]) (rounds_gt (by omega))
  refine bind_of h ?_
  rw [tr_yes (by rfl), tr_ret, List.take_length]

abbrev NewS := (List Nd × List Int × Unit) × Int × (List Bx × List V3 × Bool × Unit) × List Int × List Tr × Int × Int × Unit
theorem New_loop (l : List Tr) (w : Bool) (hn : l.length ≤ 512) :
    (l.all tMay = true ∧ bvh_New.l0 (([], [], ()), 0, ([], [], w, ()), [], l, (l.length : Int), 0, ()) = some (.exit 0, ([], [], ()), 0, (l.map bOf, l.map tMid, w, ()), nums l.length, l, (l.length : Int), (l.length : Int), ())) ∨
    (l.all tMay = false ∧ ∃ z : NewS, z.2.1 = 2 ∧ bvh_New.l0 (([], [], ()), 0, ([], [], w, ()), [], l, (l.length : Int), 0, ()) = some (.ret, z)) := by
  have h := iter_scan (t := bvh_New.t0) l tMay (fun k => (([], [], ()), 0, ((l.take k).map bOf, (l.take k).map tMid, w, ()), nums k, l, (l.length : Int), (k : Int), ())) (fun k => (([], [], ()), 2, ((l.take k).map bOf, (l.take k).map tMid, w, ()), nums k, l, (l.length : Int), (k : Int), ())) (([], [], ()), 0, (l.map bOf, l.map tMid, w, ()), nums l.length, l, (l.length : Int), (l.length : Int), ()) .ret (.exit 0)
    (fun k hk => by
      have e1 : ((l.take k).map bOf).length = k := by rw [List.length_map, List.length_take]; omega
      have e2 : ((l.take k).map tMid).length = k := by rw [List.length_map, List.length_take]; omega
      unfold bvh_New.t0
      dsimp only
      rw [tr_yes (by simp; omega), tr_opt, lget_nat l hk, Option.bind_some, tr_opt, bvh_may_eq, Option.bind_some]
      have a1 := take_all ((l.take k).map bOf) (bOf l[k])
      have a2 := take_all ((l.take k).map tMid) (tMid l[k])
      have a3 := take_all (nums k) (k : Int)
      rw [e1] at a1; rw [e2] at a2; rw [nums_len] at a3
      rw [e1, e2, nums_len]
      cases hm : tMay l[k] with
      | false =>
        rw [tr_yes (by rfl), tr_ret, List.take_of_length_le (Nat.le_of_eq e1), List.take_of_length_le (Nat.le_of_eq e2), List.take_of_length_le (Nat.le_of_eq (nums_len k))]; rfl
      | true =>
        rw [tr_no (by rfl), tr_opt, box_Of_eq, Option.bind_some, tr_yes (decide_eq_true (room (by omega) (by decide))), tr_opt, box_Mid_eq, Option.bind_some, tr_yes (decide_eq_true (room (by omega) (by decide))), tr_yes (decide_eq_true (room (by omega) (by decide))), tr_ret, W_succ (by omega), a3, a1]
        rw [show bMid (bOf l[k]) = tMid l[k] from rfl, a2, map_take bOf l hk, map_take tMid l hk, nums_succ]
        rfl) (by
      unfold bvh_New.t0
      rw [tr_no (by simp), tr_ret]
      simp only [List.take_length]) (by simp) (by simp) (m := rounds) (rounds_gt (by omega))
  rcases h with ⟨h1, h2⟩ | ⟨h1, i, h2⟩
  · exact .inl ⟨h1, h2⟩
  · exact .inr ⟨h1, _, rfl, h2⟩
end Go.Proofs.Pen

namespace Go.Proofs.Pen
open Go Go.Proofs

def lon (b : Bx) : Int :=
  if fgt (fop .sub b.2.2.1 b.1.2.1) (fop .sub b.2.1 b.1.1) then (if fgt (fop .sub b.2.2.2 b.1.2.2) (fop .sub b.2.2.1 b.1.2.1) then 2 else 1)
  else if fgt (fop .sub b.2.2.2 b.1.2.2) (fop .sub b.2.1 b.1.1) then 2 else 0
theorem longest_step {d : V3} {m : Int} (k : Nat) (hk : k < 3) : (box_Longest.t0 (d, m, (k : Int), ())).run = some (.normal, d, (if fgt (part d k) (part d m) then (k : Int) else m), ((k + 1 : Nat) : Int), ()) := by
  unfold box_Longest.t0 fgt
  dsimp only
  rw [tr_yes (by simp; omega), tr_opt, vec_Part_eq, Option.bind_some, tr_opt, vec_Part_eq, Option.bind_some, W_succ (by omega), tr_ite]
  split <;> rfl
theorem box_Longest_eq {b : Bx} (hb : okB b) : box_Longest b = some (lon b) := by
  unfold box_Longest box_Longest.t
  rw [tr_opt, box_Empty_eq, Option.bind_some]
  have h0 : (ford b.1.1 bNone.1.1 == some Ordering.eq) = false := by
    rw [ford_eqk, hb.1.1.1, show okey bNone.1.1 = some 9218868437227405312 from okey_inf]
    unfold keq
    have := hb.1.1.2.2; have := K20_eq
    simp; omega
  rw [h0]
  simp only [Bool.false_and]
  rw [tr_no rfl, tr_opt, show vec_Sub (b.2, b.1) = some (vSub b.2 b.1) from rfl, Option.bind_some, tr_opt]
  generalize hd : vSub b.2 b.1 = d
  have hlon : lon b = if fgt (part d 2) (part d (if fgt (part d 1) (part d 0) then 1 else 0)) then 2 else (if fgt (part d 1) (part d 0) then 1 else 0) := by
    rw [← hd]
    show (if fgt _ _ = true then _ else _) = _
    have p0 : part (vSub b.2 b.1) 0 = fop .sub b.2.1 b.1.1 := rfl
    have p1 : part (vSub b.2 b.1) 1 = fop .sub b.2.2.1 b.1.2.1 := rfl
    have p2 : part (vSub b.2 b.1) 2 = fop .sub b.2.2.2 b.1.2.2 := rfl
    rw [p0, p1, p2]
    by_cases h1 : fgt (fop .sub b.2.2.1 b.1.2.1) (fop .sub b.2.1 b.1.1) = true
    · rw [if_pos h1, if_pos h1, p1]
    · rw [if_neg h1, if_neg h1, p0]
  have hz : fgt (part d 0) (part d 0) = false := by
    unfold fgt; rw [ford_gt]
    cases okey (part d 0) with
    | none => rfl
    | some i => unfold klt; simp
  have s0 := longest_step (d := d) (m := 0) 0 (by omega)
  rw [show ((0 : Nat) : Int) = 0 from rfl, hz] at s0
  simp only [Bool.false_eq_true, if_false] at s0
  have hrun : box_Longest.l0 (d, 0, 0, ()) = some (.exit 0, d, lon b, 3, ()) := by
    show (iterT box_Longest.t0 rounds _).run = _
    obtain ⟨r, hr⟩ : ∃ r, rounds = r + 4 := ⟨rounds - 4, by have := rounds_gt (n := 4) (by omega); omega⟩
    rw [hr, iter_step s0]
    show (iterT box_Longest.t0 (r + 3) _).run = _
    rw [iter_step (longest_step 1 (by omega))]
    show (iterT box_Longest.t0 (r + 2) _).run = _
    rw [iter_step (longest_step 2 (by omega)), hlon]
    show (iterT box_Longest.t0 (r + 1) _).run = _
    rw [iter_step (e := .exit 0) (by unfold box_Longest.t0; rw [tr_no (by rfl), tr_ret])]
    rfl
  refine bind_of hrun ?_
  rw [tr_yes (by rfl), tr_ret]

theorem iter_find_from {σ α : Type} {t : σ → T (Ex × σ)} {l : List α} {good : α → Bool} {st zr : Nat → σ} {e : Ex} (he : e ≠ .normal) (hstep : ∀ i (h : i < l.length), (t (st i)).run = some (if good l[i] then (.normal, st (i + 1)) else (e, zr i)))
    (hend : (t (st l.length)).run = some (e, zr l.length)) : ∀ (n k m : Nat), k + n = l.length → n < m → (iterT t m (st k)).run = some (e, zr (k + ((l.drop k).takeWhile good).length))
  | n, k, 0, _, hm => absurd hm (Nat.not_lt_zero _)
  | 0, k, m + 1, hk, _ => by
    have : k = l.length := by omega
    subst this
    rw [iter_step hend, List.drop_length]
    cases e <;> first | rfl | exact absurd rfl he
  | n + 1, k, m + 1, hk, hm => by
    have hlt : k < l.length := by omega
    have hs := hstep k hlt
    rw [List.drop_eq_getElem_cons hlt, List.takeWhile_cons]
    by_cases hg : good l[k] = true
    · rw [if_pos hg] at hs
      rw [if_pos hg, iter_step hs, List.length_cons]
      have := iter_find_from he hstep hend n (k + 1) m (by omega) (by omega)
      rw [show k + ((List.drop (k + 1) l).takeWhile good).length.succ = k + 1 + ((List.drop (k + 1) l).takeWhile good).length by omega]
      exact this
    · rw [if_neg hg] at hs
      rw [if_neg hg, iter_step hs]
      cases e <;> first | rfl | exact absurd rfl he
theorem iter_find {σ α : Type} {t : σ → T (Ex × σ)} (l : List α) (good : α → Bool) (st zr : Nat → σ) {e : Ex} (he : e ≠ .normal) (hstep : ∀ i (h : i < l.length), (t (st i)).run = some (if good l[i] then (.normal, st (i + 1)) else (e, zr i)))
    (hend : (t (st l.length)).run = some (e, zr l.length)) {m : Nat} (hm : l.length < m) : (iterT t m (st 0)).run = some (e, zr (l.takeWhile good).length) := by
  have := iter_find_from he hstep hend l.length 0 m (by omega) hm
  rwa [Nat.zero_add, List.drop_zero] at this

def insG (go : Int → Int → Bool) (x : Int) : List Int → List Int
  | [] => [x]
  | y :: l => if go x y then y :: insG go x l else x :: y :: l
def sortG (go : Int → Int → Bool) (s : List Int) : List Int := s.foldl (fun a x => insG go x a) []
theorem insG_perm (go : Int → Int → Bool) (x : Int) : ∀ l : List Int, (insG go x l).Perm (x :: l)
  | [] => .refl _
  | y :: l => by
    unfold insG
    split
    · exact ((insG_perm go x l).cons y).trans (.swap x y l)
    · exact .refl _
theorem insG_eq (go : Int → Int → Bool) (x : Int) : ∀ l : List Int, insG go x l = l.take (l.takeWhile (go x)).length ++ x :: l.drop (l.takeWhile (go x)).length
  | [] => rfl
  | y :: l => by
    unfold insG
    rw [List.takeWhile_cons]
    by_cases h : go x y = true
    · rw [if_pos h, if_pos h, insG_eq go x l]; rfl
    · rw [if_neg h, if_neg h]; rfl
theorem sortG_perm_from (go : Int → Int → Bool) : ∀ (s a : List Int), (s.foldl (fun a x => insG go x a) a).Perm (s ++ a)
  | [], a => .refl _
  | x :: s, a => by
    rw [List.foldl_cons]
    refine (sortG_perm_from go s _).trans (((insG_perm go x a).append_left s).trans ?_)
    exact List.perm_middle
theorem sortG_perm (go : Int → Int → Bool) (s : List Int) : (sortG go s).Perm s := by
  have := sortG_perm_from go s []
  rwa [List.append_nil] at this
theorem insG_sorted {lt go : Int → Int → Bool} {L : List Int} (h : OrdL lt L) (g1 : ∀ a ∈ L, ∀ b ∈ L, go a b = true → lt a b = false) (g2 : ∀ a ∈ L, ∀ b ∈ L, go a b = false → lt b a = false) {x : Int} (hx : x ∈ L) : ∀ l : List Int, (∀ a ∈ l, a ∈ L) → l.Pairwise (fun a b => lt b a = false) → (insG go x l).Pairwise (fun a b => lt b a = false)
  | [], _, _ => by simp [insG]
  | y :: l, hl, hs => by
    have hy := hl y (by simp)
    have hs' := List.pairwise_cons.1 hs
    unfold insG
    by_cases hg : go x y = true
    · rw [if_pos hg]
      refine List.pairwise_cons.2 ⟨fun z hz => ?_, insG_sorted h g1 g2 hx l (fun a ha => hl a (by simp [ha])) hs'.2⟩
      rcases List.mem_cons.1 ((insG_perm go x l).mem_iff.1 hz) with rfl | hz
      · exact g1 z hx y hy hg
      · exact hs'.1 z hz
    · rw [if_neg hg]
      have hg : go x y = false := by simpa using hg
      have hyx := g2 x hx y hy hg
      refine List.pairwise_cons.2 ⟨fun z hz => ?_, hs⟩
      rcases List.mem_cons.1 hz with rfl | hz'
      · exact hyx
      · have hzL := hl z hz
        cases hzx : lt z x with
        | false => rfl
        | true =>
          have hzy := hs'.1 z hz'
          cases hyz : lt y z with
          | true => rw [h.tr y hy z hzL x hx hyz hzx] at hyx; cases hyx
          | false => rw [h.tot z hzL y hy hzy hyz] at hzx; rw [hzx] at hyx; cases hyx
theorem sortG_sorted_from {lt go : Int → Int → Bool} {L : List Int} (h : OrdL lt L) (g1 : ∀ a ∈ L, ∀ b ∈ L, go a b = true → lt a b = false) (g2 : ∀ a ∈ L, ∀ b ∈ L, go a b = false → lt b a = false) : ∀ s a : List Int, (∀ i ∈ s, i ∈ L) → (∀ i ∈ a, i ∈ L) → a.Pairwise (fun a b => lt b a = false) → (s.foldl (fun a x => insG go x a) a).Pairwise (fun a b => lt b a = false)
  | [], a, _, _, ha => ha
  | x :: s, a, hs, ha, hp => by
    rw [List.foldl_cons]
    refine sortG_sorted_from h g1 g2 s _ (fun i hi => hs i (by simp [hi])) (fun i hi => ?_) (insG_sorted h g1 g2 (hs x (by simp)) a ha hp)
    rcases List.mem_cons.1 ((insG_perm go x a).mem_iff.1 hi) with rfl | hi
    · exact hs _ (by simp)
    · exact ha i hi
theorem sortG_eq {lt go : Int → Int → Bool} {s : List Int} (h : OrdL lt s) (g1 : ∀ a ∈ s, ∀ b ∈ s, go a b = true → lt a b = false) (g2 : ∀ a ∈ s, ∀ b ∈ s, go a b = false → lt b a = false) : sortG go s = insS lt s :=
  sorted_eq h (fun _ h => h) (sortG_perm go s) (sortG_sorted_from h g1 g2 s [] (fun _ h => h) (fun _ h => by cases h) .nil)
theorem sortG_take (go : Int → Int → Bool) (s : List Int) {k : Nat} (h : k < s.length) : sortG go (s.take (k + 1)) = insG go s[k] (sortG go (s.take k)) := by
  unfold sortG
  rw [List.take_succ_eq_append_getElem h, List.foldl_append]; rfl
theorem sortG_len (go : Int → Int → Bool) (s : List Int) : (sortG go s).length = s.length := (sortG_perm go s).length_eq
theorem takeWhile_le {α : Type} (p : α → Bool) : ∀ l : List α, (l.takeWhile p).length ≤ l.length
  | [] => Nat.le_refl _
  | a :: l => by
    rw [List.takeWhile_cons]
    split
    · have := takeWhile_le p l; simp; exact this
    · simp

theorem splice1 (L : List Int) {p : Nat} (v : Int) : List.take ((List.take p L).length + 1 + (List.take (L.length - p) (List.drop p L)).length) (List.take ((List.take p L).length + 1) (List.take (List.take p L).length (List.take p L) ++ [v]) ++ List.take (L.length - p) (List.drop p L)) = L.take p ++ v :: L.drop p := by
  have h1 : List.take (L.length - p) (List.drop p L) = List.drop p L := List.take_of_length_le (by simp)
  rw [h1, List.take_length, List.take_of_length_le (i := (List.take p L).length + 1) (by simp), List.take_of_length_le (by simp; omega)]
  simp

theorem rise_step (s a : List Int) (k : Nat) (hk : k < s.length) (ha : a.length < 1000) : law12_rise.l2 (s, a, (k : Int), 0, ()) = some (.exit 2, s, a, (k : Int), ((a.takeWhile fun y => decide (y < s[k])).length : Int), ()) := by
  refine iter_find (t := law12_rise.t2) a (fun y => decide (y < s[k])) (fun j => (s, a, (k : Int), (j : Int), ())) (fun j => (s, a, (k : Int), (j : Int), ())) (e := .exit 2) (by simp) (fun j hj => ?_) ?_ (rounds_gt (by omega))
  · unfold law12_rise.t2
    dsimp only
    rw [tr_yes (by simp; omega), tr_yes (by simp; omega), tr_opt, Nat.zero_add, Int.toNat_natCast, List.getElem?_eq_getElem hj, Option.bind_some, tr_opt, lget_nat s hk, Option.bind_some, W_succ (by omega), List.take_length, tr_ite]
    by_cases h : a[j] < s[k]
    · rw [if_pos (decide_eq_true h), tr_ret, if_pos (decide_eq_true h)]
    · rw [if_neg (by simpa using h), tr_ret, if_neg (by simpa using h)]
  · unfold law12_rise.t2
    rw [tr_no (by simp), tr_ret, List.take_length]
theorem rise_eq (s : List Int) (hs : s.length < 1000) : law12_rise s = some (sortG (fun x y => decide (y < x)) s) := by
  unfold law12_rise law12_rise.t
  rw [tr_opt]
  have h := iter_count (t := law12_rise.t0) (fun k => (s, sortG (fun x y => decide (y < x)) (s.take k), (k : Int), ())) (e := .exit 0) (z := (s, sortG (fun x y => decide (y < x)) s, (s.length : Int), ())) (by simp) s.length 0 rounds (fun k _ hk => by
    have hk : k < s.length := by omega
    have hl : (sortG (fun x y => decide (y < x)) (s.take k)).length = k := by rw [sortG_len, List.length_take]; omega
    rw [sortG_take _ s hk, insG_eq]
    generalize ha : sortG (fun x y => decide (y < x)) (s.take k) = a at hl
    have hp := takeWhile_le (fun y => decide (y < s[k])) a
    generalize hP : (a.takeWhile fun y => decide (y < s[k])).length = p at hp
    have hl2 := rise_step s a k hk (by omega)
    rw [hP] at hl2
    have hlen : (List.take p a).length = p := by rw [List.length_take]; omega
    have hdl : (List.take (a.length - p) (List.drop p a)).length = a.length - p := by rw [List.length_take, List.length_drop]; omega
    unfold law12_rise.t0
    dsimp only
    rw [tr_yes (by simp; omega), tr_opt, List.take_length, hl2, Option.bind_some, tr_yes (by rfl), tr_yes (by simp; omega)]
    simp only [Int.toNat_natCast, Int.toNat_zero, Nat.zero_add, List.drop_zero, Nat.sub_zero, List.take_nil, List.nil_append]
    rw [tr_yes (by rw [hlen]; unfold most; simp; omega), tr_opt, lget_nat s hk, Option.bind_some, tr_yes (by rw [hlen]; unfold most; simp; omega), tr_yes (by simp; omega), tr_yes (by rw [hlen, hdl]; unfold most; simp; omega), tr_ret, W_succ (by omega), splice1 a]) (by
    unfold law12_rise.t0
    rw [tr_no (by simp), tr_ret, Nat.zero_add, List.take_length, List.take_length]) (rounds_gt (by omega))
  refine bind_of h ?_
  rw [tr_yes (by rfl), tr_ret, List.take_length]
theorem rise_sorted (s : List Int) : sortG (fun x y => decide (y < x)) s = insS (fun a b => decide (a < b)) s :=
  sortG_eq ⟨fun a _ => by simp, fun a _ b _ c _ h1 h2 => by simp at *; omega, fun a _ b _ h1 h2 => by simp at *; omega⟩ (fun a _ b _ h => by simp at *; omega) (fun a _ b _ h => by simp at *; omega)
end Go.Proofs.Pen

namespace Go.Proofs.Pen
open Go Go.Proofs

def mk (l : List Tr) (ax : Int) (i : Int) : Int := kx (part (tMid (trA l i)) ax)
def okL (l : List Tr) : Prop := l.all tMay = true
theorem trA_may {l : List Tr} (h : okL l) {i : Int} (hi : 0 ≤ i ∧ i < (l.length : Int)) : tMay (trA l i) = true := by
  have := lget_tr hi
  unfold lget at this
  rw [if_neg (by omega)] at this
  exact List.all_eq_true.1 h _ (List.mem_of_getElem? this)
theorem okV_part {v : V3} (h : okV v) (ax : Int) : okK (part v ax) := by
  unfold part
  split
  · exact h.1
  · split
    · exact h.2.1
    · exact h.2.2
theorem mk_ok {l : List Tr} (h : okL l) (ax : Int) {i : Int} (hi : 0 ≤ i ∧ i < (l.length : Int)) : okK (part (tMid (trA l i)) ax) := okV_part (tMid_ok (trA_may h hi)) ax
def ltM (l : List Tr) (ax : Int) (a b : Int) : Bool := decide (mk l ax a < mk l ax b ∨ (mk l ax a = mk l ax b ∧ a < b))
theorem ltM_ord (l : List Tr) (ax : Int) (s : List Int) : OrdL (ltM l ax) s :=
  ⟨fun a _ => by unfold ltM; simp, fun a _ b _ c _ h1 h2 => by unfold ltM at *; simp at *; omega, fun a _ b _ h1 h2 => by unfold ltM at *; simp at *; omega⟩

theorem okS_take {l : List Tr} {s : List Int} (h : okS l s) (k : Nat) : okS l (s.take k) := fun i hi => h i (List.mem_of_mem_take hi)
theorem okS_drop {l : List Tr} {s : List Int} (h : okS l s) (k : Nat) : okS l (s.drop k) := fun i hi => h i (List.mem_of_mem_drop hi)
theorem CmpI_eq (a b : Int) : CmpI (a, b) = some (if a < b then -1 else if b < a then 1 else 0) := by
  unfold CmpI CmpI.t
  dsimp only
  rw [tr_no (by simp), tr_no (by simp), tr_ite]
  by_cases h : a < b
  · rw [if_pos (decide_eq_true h), if_pos h, tr_ret]
  · rw [if_neg (by simpa using h), if_neg h, tr_ite]
    by_cases h2 : b < a
    · rw [if_pos (by simpa using h2), if_pos h2, tr_ret]
    · rw [if_neg (by simpa using h2), if_neg h2, tr_ret]
theorem CmpF_eq {a b : Fl} (ha : okK a) (hb : okK b) : CmpF (a, b) = some (if kx a < kx b then -1 else if kx b < kx a then 1 else 0) := by
  have self : ∀ {x : Fl}, okK x → (ford x x != some Ordering.eq) = false := fun {x} hx => by
    have := feq_kx hx hx
    unfold feq at this
    rw [bne, this]; simp
  have h1 := flt_kx ha hb
  have h2 := fgt_kx ha hb
  unfold flt at h1
  unfold fgt at h2
  unfold CmpF CmpF.t
  dsimp only
  rw [tr_no (self ha), tr_no (self hb), h1, h2, tr_ite]
  by_cases h : kx a < kx b
  · rw [if_pos (decide_eq_true h), if_pos h, tr_ret]
  · rw [if_neg (by simpa using h), if_neg h, tr_ite]
    by_cases h2 : kx b < kx a
    · rw [if_pos (by simpa using h2), if_pos h2, tr_ret]
    · rw [if_neg (by simpa using h2), if_neg h2, tr_ret]
theorem or_step (x y : Int) (r : Int) (k : Nat) (hk : k < 2) : (cmp_Or.t0 (r, 0, [x, y], 2, (k : Int), ())).run = some (if [x, y][k] == 0 then (.normal, r, 0, [x, y], 2, ((k + 1 : Nat) : Int), ()) else (.ret, [x, y][k], 0, [x, y], 2, (k : Int), ())) := by
  unfold cmp_Or.t0
  dsimp only
  rw [tr_yes (by simp; omega), tr_opt, lget_nat [x, y] (k := k) hk, Option.bind_some, W_succ (by omega), tr_ite]
  generalize [x, y][k] = v
  by_cases h : v = 0
  · subst h; rfl
  · rw [if_pos (by simpa using h), if_neg (by simpa using h), tr_ret]
theorem cmp_Or_eq (x y : Int) : cmp_Or [x, y] = some (if x = 0 then y else x) := by
  unfold cmp_Or cmp_Or.t
  rw [tr_opt]
  obtain ⟨r, hr⟩ : ∃ r, rounds = r + 3 := ⟨rounds - 3, by have := rounds_gt (n := 3) (by omega); omega⟩
  have s0 := or_step x y 0 0 (by omega)
  have s1 := or_step x y 0 1 (by omega)
  have hl : cmp_Or.l0 (0, 0, [x, y], (([x, y] : List Int).length : Int), 0, ()) = (iterT cmp_Or.t0 (r + 3) (0, 0, [x, y], 2, ((0 : Nat) : Int), ())).run := by rw [← hr]; rfl
  by_cases h : x = 0
  · subst h
    rw [if_pos rfl]
    rw [if_pos (by rfl)] at s0
    by_cases h : y = 0
    · subst h
      rw [if_pos (by rfl)] at s1
      have s2 : (cmp_Or.t0 (0, 0, [(0 : Int), 0], 2, ((2 : Nat) : Int), ())).run = some (.exit 0, 0, 0, [(0 : Int), 0], 2, 2, ()) := by
        unfold cmp_Or.t0
        rw [tr_no (by rfl), tr_ret]; rfl
      refine bind_of (hl.trans ((iter_step s0).trans ((iter_step s1).trans (iter_step s2)))) ?_
      rw [tr_yes (by rfl), tr_ret]
    · rw [if_neg (by simpa using h)] at s1
      refine bind_of (hl.trans ((iter_step s0).trans (iter_step s1))) ?_
      rw [tr_no (by rfl), tr_yes (by rfl), tr_ret]; rfl
  · rw [if_neg (by simpa using h)] at s0
    refine bind_of (hl.trans (iter_step s0)) ?_
    rw [tr_no (by rfl), tr_yes (by rfl), tr_ret, if_neg h]; rfl

abbrev BldD := List Bx × List V3 × Bool × List Nd × List Int
theorem median1_eq (l : List Tr) (B : List Bx) (w : Bool) (N : List Nd) (O : List Int) (ax i : Int) (hi : 0 ≤ i ∧ i < (l.length : Int)) : bvh_builder_median_1 (i, (B, l.map tMid, w, N, O), ax) = some (part (tMid (trA l i)) ax) := by
  unfold bvh_builder_median_1 bvh_builder_median_1.t
  dsimp only
  rw [tr_opt, lget_map tMid hi, Option.bind_some, tr_opt, vec_Part_eq, Option.bind_some, tr_ret]
def cmpM (l : List Tr) (ax a b : Int) : Int := if mk l ax a < mk l ax b then -1 else if mk l ax b < mk l ax a then 1 else if a < b then -1 else if b < a then 1 else 0
theorem median2_eq (l : List Tr) (B : List Bx) (w : Bool) (N : List Nd) (O : List Int) (ax a b : Int) (hL : okL l) (ha : 0 ≤ a ∧ a < (l.length : Int)) (hb : 0 ≤ b ∧ b < (l.length : Int)) : bvh_builder_median_2 (a, b, (B, l.map tMid, w, N, O), ax) = some (cmpM l ax a b) := by
  unfold bvh_builder_median_2 bvh_builder_median_2.t
  dsimp only
  rw [tr_opt, median1_eq l B w N O ax a ha, Option.bind_some, tr_opt, median1_eq l B w N O ax b hb, Option.bind_some, tr_opt, CmpF_eq (mk_ok hL ax ha) (mk_ok hL ax hb), Option.bind_some, tr_opt, CmpI_eq, Option.bind_some, tr_opt]
  simp only [List.take_succ_cons, List.take_zero]
  rw [cmp_Or_eq, Option.bind_some, tr_ret]
  show some (if (if mk l ax a < mk l ax b then (-1 : Int) else if mk l ax b < mk l ax a then 1 else 0) = 0 then _ else (if mk l ax a < mk l ax b then (-1 : Int) else if mk l ax b < mk l ax a then 1 else 0)) = some (cmpM l ax a b)
  unfold cmpM
  by_cases h1 : mk l ax a < mk l ax b
  · simp [h1]
  · by_cases h2 : mk l ax b < mk l ax a
    · simp [h1, h2]
    · simp [h1, h2]
theorem cmpM_lt (l : List Tr) (ax a b : Int) : decide (cmpM l ax a b < 0) = ltM l ax a b := by
  unfold cmpM ltM
  rw [decide_eq_decide]
  split
  · simp; omega
  · split
    · simp; omega
    · split
      · simp; omega
      · split <;> simp <;> omega
theorem insB_congr {f g : Int → Int → Bool} {s : List Int} (h : ∀ a ∈ s, ∀ b ∈ s, f a b = g a b) {x : Int} (hx : x ∈ s) : ∀ l : List Int, (∀ a ∈ l, a ∈ s) → insB f x l = insB g x l
  | [], _ => rfl
  | y :: l, hl => by
    unfold insB
    rw [h x hx y (hl y (by simp)), insB_congr h hx l fun a ha => hl a (by simp [ha])]
theorem insS_congr {f g : Int → Int → Bool} {s : List Int} (h : ∀ a ∈ s, ∀ b ∈ s, f a b = g a b) : ∀ l : List Int, (∀ a ∈ l, a ∈ s) → insS f l = insS g l
  | [], _ => rfl
  | y :: l, hl => by
    unfold insS
    rw [insS_congr h l fun a ha => hl a (by simp [ha])]
    exact insB_congr h (hl y (by simp)) _ fun a ha => hl a (by simp [(insS_perm g l).mem_iff.1 ha])
theorem sortO_eq {f : Int → Int → Option Int} {lt : Int → Int → Bool} {s : List Int} (hne : s ≠ []) (hl : s.length < 1000) (h : ∀ a ∈ s, ∀ b ∈ s, ∃ n, f a b = some n ∧ decide (n < 0) = lt a b) (ho : OrdL lt s) : sortO f s = some (insS lt s) := by
  have hlt : ∀ a ∈ s, ∀ b ∈ s, ltF f a b = lt a b := fun a ha b hb => by
    obtain ⟨n, h1, h2⟩ := h a ha b hb
    unfold ltF; rw [h1]; exact h2
  have hok : ordOK f s = true := by
    unfold ordOK
    rw [Bool.and_eq_true, List.all_eq_true, List.all_eq_true]
    refine ⟨fun a ha => by rw [hlt a ha a ha, ho.irr a ha]; rfl, fun a ha => List.all_eq_true.2 fun b hb => ?_⟩
    obtain ⟨n, h1, _⟩ := h a ha b hb
    rw [hlt a ha b hb, hlt b hb a ha, h1]
    have ht : (lt a b || lt b a || a == b) = true := by
      cases hab : lt a b with
      | true => rfl
      | false =>
        cases hba : lt b a with
        | true => rfl
        | false => rw [ho.tot a ha b hb hab hba]; simp
    rw [ht]
    simp only [Option.isSome_some, Bool.and_self, Bool.true_and]
    refine List.all_eq_true.2 fun c hc => ?_
    rw [hlt b hb c hc, hlt a ha c hc]
    cases hab : lt a b with
    | false => rfl
    | true =>
      cases hbc : lt b c with
      | false => rfl
      | true => rw [ho.tr a ha b hb c hc hab hbc]; rfl
  cases s with
  | nil => exact absurd rfl hne
  | cons x s =>
    have hb : Nat.ble s.length 1000000 = true := Nat.ble_eq_true_of_le (by rw [List.length_cons] at hl; omega)
    show (match ordOK f (x :: s) && Nat.ble s.length 1000000 with
      | true => some (insS (ltF f) (x :: s))
      | false => none) = _
    rw [hok, hb]
    simp only [Bool.and_self]
    rw [insS_congr hlt (x :: s) fun _ h => h]
theorem ints_id (s : List Int) : intsOf (t := .int .i64) rfl s = s := rfl
theorem median_sort (l : List Tr) (B : List Bx) (w : Bool) (N : List Nd) (O : List Int) (ax : Int) (s : List Int) (hL : okL l) (hs : okS l s) (hne : s ≠ []) (hl : s.length < 1000) : sortO (fun a b => bvh_builder_median_2 (a, b, (B, l.map tMid, w, N, O), ax)) (List.take s.length (intsOf (t := .int .i64) rfl s)) = some (insS (ltM l ax) s) := by
  rw [ints_id, List.take_length]
  exact sortO_eq hne hl (fun a ha b hb => ⟨_, median2_eq l B w N O ax a b hL (hs a ha) (hs b hb), cmpM_lt l ax a b⟩) (ltM_ord l ax s)

def halves (l : List Tr) (ax : Int) (s : List Int) : List Int × List Int := ((insS (ltM l ax) s).take (s.length / 2), (insS (ltM l ax) s).drop (s.length / 2))
theorem half_W (n : Nat) (h : n < 1000) : W ((n : Int).tdiv 2) = ((n / 2 : Nat) : Int) := by
  have : (n : Int).tdiv 2 = ((n / 2 : Nat) : Int) := by rw [Int.tdiv_eq_ediv_of_nonneg (by omega)]; omega
  rw [this, W_id (by omega) (by omega)]
theorem median_eq (l : List Tr) (B : List Bx) (w : Bool) (N : List Nd) (O : List Int) (ax : Int) (s : List Int) (hL : okL l) (hs : okS l s) (hne : s ≠ []) (hl : s.length < 1000) : bvh_builder_median ((B, l.map tMid, w, N, O), s, ax) = some (halves l ax s) := by
  unfold bvh_builder_median bvh_builder_median.t
  dsimp only
  have hlen : (insS (ltM l ax) s).length = s.length := (insS_perm _ s).length_eq
  rw [tr_yes (by unfold most; simp; omega), tr_opt, median_sort l B w N O ax s hL hs hne hl, Option.bind_some, half_W s.length hl, tr_yes (by simp; omega), tr_yes (by simp; omega), tr_ret, ints_id, List.drop_length, List.append_nil]
  simp only [Int.toNat_natCast, Int.toNat_zero, Nat.zero_add, List.drop_zero, Nat.sub_zero]
  rw [List.take_of_length_le (i := s.length - s.length / 2) (by rw [List.length_drop, hlen]; exact Nat.le_refl _)]
  rfl
end Go.Proofs.Pen

namespace Go.Proofs.Pen
open Go Go.Proofs

abbrev f8 : Fl := some 4620693217682128896
def binv (l : List Tr) (b : Bx) (ax i : Int) : Option Int := f2i .i64 (fop .mul f8 (fop .quo (fop .sub (part (tMid (trA l i)) ax) (part b.1 ax)) (fop .sub (part b.2 ax) (part b.1 ax))))
def bn (l : List Tr) (b : Bx) (ax i : Int) : Int := if 7 < (binv l b ax i).getD 0 then 7 else (binv l b ax i).getD 0
def gtB (b : Bx) (ax : Int) : Bool := fgt (part b.2 ax) (part b.1 ax)
theorem okey_8 : okey f8 = some 4620693217682128896 := okey_lit (by decide) (by decide)
theorem mul8_edge : MM (valI 4620693217682128896 * valI 4607182418800017408) = 4620693217682128896 := by kernel_rfl
theorem okA_part {b : Bx} (h : okB b) (ax : Int) : okA (part b.1 ax) (part b.2 ax) := by
  unfold part
  split
  · exact h.1
  · split
    · exact h.2.1
    · exact h.2.2
theorem inA_part {b c : Bx} (h : inB b c) (ax : Int) : inA (part b.1 ax) (part b.2 ax) (part c.1 ax) (part c.2 ax) := by
  unfold part
  split
  · exact h.1
  · split
    · exact h.2.1
    · exact h.2.2
theorem mds_ok {l : List Tr} {s : List Int} (hL : okL l) (hs : okS l s) (hne : s ≠ []) : okB (mds l s) ∧ ∀ i ∈ s, inB (tMid (trA l i), tMid (trA l i)) (mds l s) := by
  have h := bAll_ok (l := s.map fun i => (tMid (trA l i), tMid (trA l i))) (by simpa using hne) (fun b hb => by
    obtain ⟨i, hi, rfl⟩ := List.mem_map.1 hb
    exact okB_pt (tMid_ok (trA_may hL (hs i hi))))
  exact ⟨h.1, fun i hi => h.2 _ (List.mem_map_of_mem hi)⟩
theorem bxs_ok {l : List Tr} {s : List Int} (hL : okL l) (hs : okS l s) (hne : s ≠ []) : okB (bxs l s) ∧ ∀ i ∈ s, inB (bOf (trA l i)) (bxs l s) := by
  have h := bAll_ok (l := s.map fun i => bOf (trA l i)) (by simpa using hne) (fun b hb => by
    obtain ⟨i, hi, rfl⟩ := List.mem_map.1 hb
    exact bOf_ok (trA_may hL (hs i hi)))
  exact ⟨h.1, fun i hi => h.2 _ (List.mem_map_of_mem hi)⟩

theorem bin_some {lo c hi : Fl} (hl : okK lo) (hc : okK c) (hh : okK hi) (h1 : kx lo ≤ kx c) (h2 : kx c ≤ kx hi) (hgt : kx lo < kx hi) :
    ∃ n, f2i .i64 (fop .mul f8 (fop .quo (fop .sub c lo) (fop .sub hi lo))) = some n := by
  have hK := K20_eq
  have kc := sub_key hc.1 hl.1 (by have := hc.2; omega) (by have := hl.2; omega)
  have kh := sub_key hh.1 hl.1 (by have := hh.2; omega) (by have := hl.2; omega)
  have v1 := valI_mono h1
  have v2 := valI_mono h2
  have v3 := valI_lt hgt
  have bl := valI_bd hl.2.1 hl.2.2
  have bh := valI_bd hh.2.1 hh.2.2
  have z0 : RR 0 = 0 := by kernel_rfl
  have z1 : RR 1 = 1 := by kernel_rfl
  have r1 : 0 ≤ RR (valI (kx c) - valI (kx lo)) := by rw [← z0]; exact RR_mono (by omega)
  have r2 : RR (valI (kx c) - valI (kx lo)) ≤ RR (valI (kx hi) - valI (kx lo)) := RR_mono (by omega)
  have r3 : 1 ≤ RR (valI (kx hi) - valI (kx lo)) := by rw [← z1]; exact RR_mono (by omega)
  have r4 : RR (valI (kx hi) - valI (kx lo)) ≤ 4701758010974797824 := by rw [← sum_edge]; exact RR_mono (by omega)
  obtain ⟨q, hq, q0, q1⟩ := quo_key kc kh r1 r2 (by omega) (by omega)
  have hm := mul_key okey_8 hq (by decide) (by omega)
  have w0 : valI 0 = 0 := by kernel_rfl
  have w1 := valI_mono q0
  rw [w0] at w1
  have w2 := valI_mono q1
  have w8 : 0 ≤ valI 4620693217682128896 := by rw [← w0]; exact valI_mono (by decide)
  have m0 : MM 0 = 0 := by kernel_rfl
  obtain ⟨n, hn, _⟩ := f2i_key hm (by rw [← m0]; exact MM_mono (Int.mul_nonneg w8 w1)) (Int.le_trans (MM_mono (Int.mul_le_mul_of_nonneg_left w2 w8)) (Int.le_of_eq mul8_edge))
  exact ⟨n, hn⟩
theorem binv_some {l : List Tr} {s : List Int} {ax : Int} (hL : okL l) (hs : okS l s) (hg : gtB (mds l s) ax = true) {i : Int} (hi : i ∈ s) : binv l (mds l s) ax i = some ((binv l (mds l s) ax i).getD 0) := by
  obtain ⟨h1, h2⟩ := mds_ok hL hs (List.ne_nil_of_mem hi)
  have ha := okA_part h1 ax
  have hin := inA_part (h2 i hi) ax
  unfold gtB at hg
  rw [fgt_kx ha.2.1 ha.1] at hg
  obtain ⟨n, hn⟩ := bin_some ha.1 (mk_ok hL ax (hs i hi)) ha.2.1 hin.1 hin.2 (of_decide_eq_true hg)
  have : binv l (mds l s) ax i = some n := hn
  rw [this]; rfl
theorem bbin_eq (l : List Tr) (B : List Bx) (w : Bool) (N : List Nd) (O : List Int) {s : List Int} {ax : Int} (hL : okL l) (hs : okS l s) (hg : gtB (mds l s) ax = true) {i : Int} (hi : i ∈ s) : bvh_builder_bin ((B, l.map tMid, w, N, O), i, ax, mds l s) = some (bn l (mds l s) ax i) := by
  have h := binv_some hL hs hg hi
  unfold bvh_builder_bin bvh_builder_bin.t
  dsimp only
  rw [tr_opt, vec_Part_eq, Option.bind_some, tr_opt, vec_Part_eq, Option.bind_some, tr_opt, lget_map tMid (hs i hi), Option.bind_some, tr_opt, vec_Part_eq, Option.bind_some, tr_opt]
  refine bind_of (show f2i _ _ = some ((binv l (mds l s) ax i).getD 0) from h) ?_
  rw [tr_ret]; rfl
def cutP (l : List Tr) (b : Bx) (ax k : Int) (f : Bool) (i : Int) : Bool := decide (bn l b ax i < k) == f
def cutL (l : List Tr) (b : Bx) (ax k : Int) (f : Bool) (s : List Int) : List Int := s.filter (cutP l b ax k f)
theorem filter_take (p : Int → Bool) (s : List Int) {k : Nat} (h : k < s.length) : (s.take (k + 1)).filter p = (if p s[k] then (s.take k).filter p ++ [s[k]] else (s.take k).filter p) := by
  rw [List.take_succ_eq_append_getElem h, List.filter_append, List.filter_cons]
  split <;> simp
theorem filter_take_le (p : Int → Bool) (s : List Int) (k : Nat) : ((s.take k).filter p).length ≤ k := Nat.le_trans (List.length_filter_le _ _) (by rw [List.length_take]; omega)
def halfB (b : Bx) : Fl := fop .add (fop .add (fop .mul (vSub b.2 b.1).1 (vSub b.2 b.1).2.1) (fop .mul (vSub b.2 b.1).2.1 (vSub b.2 b.1).2.2)) (fop .mul (vSub b.2 b.1).2.2 (vSub b.2 b.1).1)
theorem box_Half_eq (b : Bx) : box_Half b = some (halfB b) := by
  unfold box_Half box_Half.t
  rw [tr_opt, vec_Sub_eq, Option.bind_some, tr_ret]; rfl
def cost (l : List Tr) (a b : List Int) : Fl := fop .add (fop .mul (halfB (bxs l a)) (some (FloatKind.f64.nearest (a.length : Int)))) (fop .mul (halfB (bxs l b)) (some (FloatKind.f64.nearest (b.length : Int))))
theorem cost_eq (l : List Tr) (M : List V3) (w : Bool) (N : List Nd) (O : List Int) (a b : List Int) (ha : okS l a) (hb : okS l b) (la : a.length < 1000) (lb : b.length < 1000) : bvh_builder_cost ((l.map bOf, M, w, N, O), a, b) = some (cost l a b) := by
  unfold bvh_builder_cost bvh_builder_cost.t
  dsimp only
  rw [tr_opt, around_eq l M w N O a ha la, Option.bind_some, tr_opt, box_Half_eq, Option.bind_some, tr_opt, around_eq l M w N O b hb lb, Option.bind_some, tr_opt, box_Half_eq, Option.bind_some, tr_ret]
  rfl

def pick (l : List Tr) (b : Bx) (ax : Int) (s : List Int) (k : Int) (x : Int × Fl) : Int × Fl :=
  if (cutL l b ax k true s).isEmpty || (cutL l b ax k false s).isEmpty then x
  else if x.1 == 0 || flt (cost l (cutL l b ax k true s) (cutL l b ax k false s)) x.2 then (k, cost l (cutL l b ax k true s) (cutL l b ax k false s)) else x
def picks (l : List Tr) (b : Bx) (ax : Int) (s : List Int) : Nat → Int × Fl
  | 0 => (0, f0)
  | n + 1 => pick l b ax s ((n + 1 : Nat) : Int) (picks l b ax s n)
theorem picks_cut (l : List Tr) (b : Bx) (ax : Int) (s : List Int) : ∀ n, 0 ≤ (picks l b ax s n).1 ∧ ((picks l b ax s n).1 ≠ 0 → (cutL l b ax (picks l b ax s n).1 true s) ≠ [] ∧ (cutL l b ax (picks l b ax s n).1 false s) ≠ [])
  | 0 => ⟨by simp [picks], fun h => absurd rfl h⟩
  | n + 1 => by
    have ih := picks_cut l b ax s n
    unfold picks pick
    split
    · exact ih
    · rename_i h
      split
      · refine ⟨by dsimp only; omega, fun _ => ?_⟩
        simp only [Bool.or_eq_true, List.isEmpty_iff, not_or] at h
        exact h
      · exact ih
theorem two_filter (q : Int → Bool) : ∀ s : List Int, (s.filter fun i => q i == true).length + (s.filter fun i => q i == false).length = s.length
  | [] => rfl
  | i :: s => by
    have ih := two_filter q s
    rw [List.filter_cons, List.filter_cons]
    cases q i with
    | true => rw [if_pos (by rfl), if_neg (by decide), List.length_cons, List.length_cons]; omega
    | false => rw [if_neg (by decide), if_pos (by rfl), List.length_cons, List.length_cons]; omega
theorem cutL_len (l : List Tr) (b : Bx) (ax k : Int) (s : List Int) : (cutL l b ax k true s).length + (cutL l b ax k false s).length = s.length := two_filter (fun i => decide (bn l b ax i < k)) s
theorem okS_cut {l : List Tr} {s : List Int} (h : okS l s) (b : Bx) (ax k : Int) (f : Bool) : okS l (cutL l b ax k f s) := fun i hi => h i (List.mem_filter.1 hi).1
def parted (l : List Tr) (w : Bool) (s : List Int) : List Int × List Int :=
  if w && gtB (mds l s) (lon (mds l s)) && ((picks l (mds l s) (lon (mds l s)) s 7).1 != 0) then (cutL l (mds l s) (lon (mds l s)) (picks l (mds l s) (lon (mds l s)) s 7).1 true s, cutL l (mds l s) (lon (mds l s)) (picks l (mds l s) (lon (mds l s)) s 7).1 false s)
  else halves l (lon (mds l s)) s
theorem parted_ok {l : List Tr} {s : List Int} (w : Bool) (hs : okS l s) (h2 : 2 ≤ s.length) : okS l (parted l w s).1 ∧ okS l (parted l w s).2 ∧ (parted l w s).1 ≠ [] ∧ (parted l w s).2 ≠ [] ∧ (parted l w s).1.length + (parted l w s).2.length = s.length := by
  unfold parted
  split
  · rename_i h
    rw [Bool.and_eq_true] at h
    obtain ⟨e1, e2⟩ := (picks_cut l (mds l s) (lon (mds l s)) s 7).2 (by simpa using h.2)
    exact ⟨okS_cut hs _ _ _ _, okS_cut hs _ _ _ _, e1, e2, cutL_len _ _ _ _ _⟩
  · have hp := insS_perm (ltM l (lon (mds l s))) s
    have hlen := hp.length_eq
    have ho : okS l (insS (ltM l (lon (mds l s))) s) := fun i hi => hs i (hp.mem_iff.1 hi)
    unfold halves
    refine ⟨okS_take ho _, okS_drop ho _, ?_, ?_, ?_⟩
    · intro e; have := congrArg List.length e; rw [List.length_take, hlen, List.length_nil] at this; omega
    · intro e; have := congrArg List.length e; rw [List.length_drop, hlen, List.length_nil] at this; omega
    · dsimp only; rw [List.length_take, List.length_drop, hlen]; omega
end Go.Proofs.Pen

namespace Go.Proofs.Pen
open Go Go.Proofs

theorem pick_eq (l : List Tr) (b : Bx) (ax : Int) (s : List Int) (k : Int) (j : Int) (c : Fl) : pick l b ax s k (j, c) = if ((cutL l b ax k true s).length : Int) == 0 || ((cutL l b ax k false s).length : Int) == 0 then (j, c) else if j == 0 || ford (cost l (cutL l b ax k true s) (cutL l b ax k false s)) c == some .lt then (k, cost l (cutL l b ax k true s) (cutL l b ax k false s)) else (j, c) := by
  have h : ∀ x : List Int, x.isEmpty = ((x.length : Int) == 0) := fun x => by
    cases x with
    | nil => rfl
    | cons a x => rw [List.length_cons]; symm; simp; omega
  unfold pick flt
  rw [h, h]
theorem cut_le (l : List Tr) (b : Bx) (ax k : Int) (f : Bool) (s : List Int) : (cutL l b ax k f s).length ≤ s.length := List.length_filter_le _ _
end Go.Proofs.Pen

namespace Go.Proofs.Pen
open Go Go.Proofs

abbrev bld (l : List Tr) (w : Bool) (N : List Nd) (O : List Int) : BldD := (l.map bOf, l.map tMid, w, N, O)
theorem split_eq (l : List Tr) (w : Bool) (N : List Nd) (O : List Int) (s : List Int) (ax k : Int) (bA bB : List Int) (c : Fl) (hL : okL l) (hs : okS l s) (hl : s.length < 900) (hg : gtB (mds l s) ax = true) :
    bvh_builder_cheapest.l2 (bld l w N O, s, ax, mds l s, (bA, bB, ()), c, k, ([], [], ()), s, (s.length : Int), 0, ()) = some (.exit 2, bld l w N O, s, ax, mds l s, (bA, bB, ()), c, k, (cutL l (mds l s) ax k true s, cutL l (mds l s) ax k false s, ()), s, (s.length : Int), (s.length : Int), ()) := by
  refine iter_count (t := bvh_builder_cheapest.t2) (fun j => (bld l w N O, s, ax, mds l s, (bA, bB, ()), c, k, ((s.take j).filter (cutP l (mds l s) ax k true), (s.take j).filter (cutP l (mds l s) ax k false), ()), s, (s.length : Int), (j : Int), ())) (e := .exit 2) (by simp) s.length 0 rounds (fun j _ hj => ?_) ?_ (rounds_gt (by omega))
  · have hj : j < s.length := by omega
    have hm := List.getElem_mem hj
    have l1 := filter_take_le (cutP l (mds l s) ax k true) s j
    have l2 := filter_take_le (cutP l (mds l s) ax k false) s j
    rw [filter_take _ s hj, filter_take _ s hj]
    generalize (s.take j).filter (cutP l (mds l s) ax k true) = A at l1
    generalize (s.take j).filter (cutP l (mds l s) ax k false) = B at l2
    unfold bvh_builder_cheapest.t2
    dsimp only
    rw [tr_yes (by simp; omega), tr_opt, lget_nat s hj, Option.bind_some, tr_opt, bbin_eq l _ w N O hL hs hg hm, Option.bind_some, W_succ (by omega)]
    by_cases h : bn l (mds l s) ax s[j] < k
    · have c1 : cutP l (mds l s) ax k true s[j] = true := by unfold cutP; simp [h]
      have c2 : cutP l (mds l s) ax k false s[j] = false := by unfold cutP; simp [h]
      rw [c1, c2, if_pos rfl, if_neg (by simp), tr_no (by simp; omega), tr_yes (by rfl), tr_yes (decide_eq_true (room (by omega) (by decide))), tr_yes (by rfl), tr_ret, take_all]
      simp only [List.take_length]
    · have c1 : cutP l (mds l s) ax k true s[j] = false := by unfold cutP; simp [h]
      have c2 : cutP l (mds l s) ax k false s[j] = true := by unfold cutP; simp [h]
      rw [c1, c2, if_pos rfl, if_neg (by simp), tr_yes (by simp; omega), tr_no (by rfl), tr_yes (by rfl), tr_yes (decide_eq_true (room (by omega) (by decide))), tr_no (by rfl), tr_yes (by rfl), tr_ret, take_all]
      simp only [List.take_length]
  · unfold bvh_builder_cheapest.t2
    rw [tr_no (by simp), tr_ret, Nat.zero_add, List.take_length]
    simp only [List.take_length]
    rfl
def bestL (l : List Tr) (b : Bx) (ax : Int) (s : List Int) (j : Int) : List Int × List Int × Unit := if j == 0 then ([], [], ()) else (cutL l b ax j true s, cutL l b ax j false s, ())
theorem bestL_len (l : List Tr) (b : Bx) (ax : Int) (s : List Int) (n : Nat) : (((bestL l b ax s (picks l b ax s n).1).1.length : Int) == 0) = ((picks l b ax s n).1 == 0) := by
  have h := picks_cut l b ax s n
  generalize (picks l b ax s n).1 = j at h
  unfold bestL
  by_cases h0 : j = 0
  · subst h0; rfl
  · rw [if_neg (by simpa using h0)]
    have h1 := (h.2 h0).1
    have : (j == 0) = false := by simpa using h0
    rw [this]
    cases hc : cutL l b ax j true s with
    | nil => exact absurd hc h1
    | cons a x => rw [List.length_cons]; simp; omega
theorem cheap_step (l : List Tr) (w : Bool) (N : List Nd) (O : List Int) (s : List Int) (ax : Int) (hL : okL l) (hs : okS l s) (hl : s.length < 900) (hg : gtB (mds l s) ax = true) (k : Nat) (hk : k < 7) :
    (bvh_builder_cheapest.t0 (bld l w N O, s, ax, mds l s, bestL l (mds l s) ax s (picks l (mds l s) ax s k).1, (picks l (mds l s) ax s k).2, ((k + 1 : Nat) : Int), ())).run = some (.normal, bld l w N O, s, ax, mds l s, bestL l (mds l s) ax s (picks l (mds l s) ax s (k + 1)).1, (picks l (mds l s) ax s (k + 1)).2, ((k + 2 : Nat) : Int), ()) := by
  have hgt : (!(ford (part (mds l s).2 ax) (part (mds l s).1 ax) == some Ordering.gt)) = false := by
    have : (ford (part (mds l s).2 ax) (part (mds l s).1 ax) == some Ordering.gt) = true := hg
    rw [this]; rfl
  have hb := bestL_len l (mds l s) ax s k
  rw [show picks l (mds l s) ax s (k + 1) = pick l (mds l s) ax s ((k + 1 : Nat) : Int) (picks l (mds l s) ax s k) from rfl]
  generalize picks l (mds l s) ax s k = x at hb
  obtain ⟨j, c⟩ := x
  dsimp only at hb ⊢
  rw [pick_eq]
  have hA := split_eq l w N O s ax ((k + 1 : Nat) : Int) (bestL l (mds l s) ax s j).1 (bestL l (mds l s) ax s j).2.1 c hL hs hl hg
  unfold bvh_builder_cheapest.t0
  dsimp only
  rw [tr_yes (by simp; omega), tr_opt, vec_Part_eq, Option.bind_some, tr_opt, vec_Part_eq, Option.bind_some, tr_no hgt, List.take_length, List.take_length, tr_opt, hA, Option.bind_some, tr_yes (by rfl)]
  dsimp only
  simp only [List.take_length]
  rw [W_succ (by omega)]
  have hne : bestL l (mds l s) ax s ((k + 1 : Nat) : Int) = (cutL l (mds l s) ax ((k + 1 : Nat) : Int) true s, cutL l (mds l s) ax ((k + 1 : Nat) : Int) false s, ()) := by unfold bestL; rw [if_neg (by simp; omega)]
  generalize hA' : cutL l (mds l s) ax ((k + 1 : Nat) : Int) true s = A at hne
  generalize hB' : cutL l (mds l s) ax ((k + 1 : Nat) : Int) false s = B at hne
  have oA : okS l A := by rw [← hA']; exact okS_cut hs _ _ _ _
  have oB : okS l B := by rw [← hB']; exact okS_cut hs _ _ _ _
  have lA : A.length < 1000 := by rw [← hA']; exact Nat.lt_of_le_of_lt (cut_le ..) (by omega)
  have lB : B.length < 1000 := by rw [← hB']; exact Nat.lt_of_le_of_lt (cut_le ..) (by omega)
  by_cases h1 : ((A.length : Int) == 0) = true
  · rw [tr_yes h1, tr_ret, h1]; rfl
  · have h1 : ((A.length : Int) == 0) = false := by simpa using h1
    rw [tr_no h1]
    by_cases h2 : ((B.length : Int) == 0) = true
    · rw [tr_yes h2, tr_ret, h1, h2]; rfl
    · have h2 : ((B.length : Int) == 0) = false := by simpa using h2
      rw [tr_no h2, tr_opt, cost_eq l _ w N O A B oA oB lA lB, Option.bind_some, h1, h2, hb, tr_ite, if_neg (show ¬ (false || false) = true by simp)]
      split
      · rw [tr_ret, hne]
      · rw [tr_ret]
theorem cheapest_eq (l : List Tr) (N : List Nd) (O : List Int) (s : List Int) (hL : okL l) (hs : okS l s) (h2 : 2 ≤ s.length) (hl : s.length < 900) : bvh_builder_cheapest (bld l true N O, s, lon (mds l s), mds l s) = some (parted l true s) := by
  have hne : s ≠ [] := fun e => by rw [e] at h2; simp at h2
  unfold bvh_builder_cheapest bvh_builder_cheapest.t
  dsimp only
  rw [tr_opt]
  have hlen : (insS (ltM l (lon (mds l s))) s).length = s.length := (insS_perm _ s).length_eq
  obtain ⟨r, hr⟩ : ∃ r, rounds = r + 1 := ⟨rounds - 1, by have := rounds_gt (n := 1) (by omega); omega⟩
  unfold parted
  cases hg : gtB (mds l s) (lon (mds l s)) with
  | false =>
    have hgt : (!(ford (part (mds l s).2 (lon (mds l s))) (part (mds l s).1 (lon (mds l s))) == some Ordering.gt)) = true := by
      have : (ford (part (mds l s).2 (lon (mds l s))) (part (mds l s).1 (lon (mds l s))) == some Ordering.gt) = false := hg
      rw [this]; rfl
    have hrun : bvh_builder_cheapest.l0 (bld l true N O, s, lon (mds l s), mds l s, ([], [], ()), some 0, 1, ()) = some (.exit 0, bld l true N O, s, lon (mds l s), mds l s, ([], [], ()), some 0, 1, ()) := by
      show (iterT bvh_builder_cheapest.t0 rounds _).run = _
      rw [hr, iter_step (e := .exit 0) (by unfold bvh_builder_cheapest.t0; dsimp only; rw [tr_yes (by rfl), tr_opt, vec_Part_eq, Option.bind_some, tr_opt, vec_Part_eq, Option.bind_some, tr_yes hgt, tr_ret])]
      rfl
    refine bind_of hrun ?_
    rw [tr_yes (by rfl), tr_yes (by rfl)]
    dsimp only
    rw [tr_yes (by unfold most; simp; omega), tr_opt, median_sort l _ true N O _ s hL hs hne (by omega), Option.bind_some, half_W s.length (by omega), tr_yes (by simp; omega), tr_yes (by simp; omega), tr_ret, ints_id, List.drop_length, List.append_nil]
    simp only [Int.toNat_natCast, Int.toNat_zero, Nat.zero_add, List.drop_zero, Nat.sub_zero]
    rw [List.take_of_length_le (i := s.length - s.length / 2) (by rw [List.length_drop, hlen]; exact Nat.le_refl _)]
    rfl
  | true =>
    have h := iter_count (t := bvh_builder_cheapest.t0) (fun k => (bld l true N O, s, lon (mds l s), mds l s, bestL l (mds l s) (lon (mds l s)) s (picks l (mds l s) (lon (mds l s)) s k).1, (picks l (mds l s) (lon (mds l s)) s k).2, ((k + 1 : Nat) : Int), ())) (e := .exit 0) (z := (bld l true N O, s, lon (mds l s), mds l s, bestL l (mds l s) (lon (mds l s)) s (picks l (mds l s) (lon (mds l s)) s 7).1, (picks l (mds l s) (lon (mds l s)) s 7).2, 8, ())) (by simp) 7 0 rounds (fun k _ hk => cheap_step l true N O s _ hL hs hl hg k (by omega)) (by
      unfold bvh_builder_cheapest.t0
      rw [tr_no (by rfl), tr_ret]
      simp only [List.take_length]
      rfl) (rounds_gt (by omega))
    refine bind_of h ?_
    have hb := bestL_len l (mds l s) (lon (mds l s)) s 7
    rw [tr_yes (by rfl)]
    generalize picks l (mds l s) (lon (mds l s)) s 7 = x at hb
    obtain ⟨j, c⟩ := x
    dsimp only at hb ⊢
    by_cases h0 : j = 0
    · subst h0
      rw [tr_yes (by rfl)]
      rw [tr_yes (by unfold most; simp; omega), tr_opt, median_sort l _ true N O _ s hL hs hne (by omega), Option.bind_some, half_W s.length (by omega), tr_yes (by simp; omega), tr_yes (by simp; omega), tr_ret, ints_id, List.drop_length, List.append_nil]
      simp only [Int.toNat_natCast, Int.toNat_zero, Nat.zero_add, List.drop_zero, Nat.sub_zero]
      rw [List.take_of_length_le (i := s.length - s.length / 2) (by rw [List.length_drop, hlen]; exact Nat.le_refl _)]
      rfl
    · have hj : (j == 0) = false := by simpa using h0
      rw [hj] at hb
      rw [tr_no hb, tr_ret, if_pos (by simpa using h0)]
      unfold bestL
      rw [if_neg (by simpa using h0), List.take_length, List.take_length]
end Go.Proofs.Pen
