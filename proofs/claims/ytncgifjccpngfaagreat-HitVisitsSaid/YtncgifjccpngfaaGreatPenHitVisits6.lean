/- A part of the proof that the law HitVisits is true of every input: models of the functions that the law reaches, and what holds of them. -/
import Derived.Shelf.SlGeneric
import Derived.Shelf.SlSortCmp.NoneTotal
import Derived.Ground.SlsfProg
import Derived.Shelf.Small.Bits
import Derived.Shelf.Small.Wraps
import Derived.Shelf.Strconv.Itoa0
import Derived.Shelf.Sort.Plain
import Derived.Shelf.Slices.Turned
import Derived.Ground.Names2Prog
import Derived.Shelf.Slices.Clone
import Derived.Shelf.Slices.SearchI
import Derived.Shelf.Slices.In.SortNone
import Derived.Ground.SlgnProg
import Derived.Shelf.SlicesE.Clone
import Derived.Shelf.SlSortCmp.Insertion
import Derived.Shelf.SlSortCmp.SiftDown1
import Derived.Shelf.SlSortCmp.HeapSort1
import Derived.Shelf.SlSortCmp.Insertion1
import Derived.Shelf.SlSortCmp.Median1
import Derived.Shelf.SlSortCmp.Pivot1
import Derived.Shelf.SlSortCmp.ReverseRange1
import Derived.Shelf.SlSortCmp.PartialInsertion1
import Derived.Shelf.SlSortCmp.PartitionEqual1
import Derived.Shelf.SlSortCmp.Partition1
import Derived.Shelf.SlSortCmp.Pdq1
import Derived.Shelf.SlSortCmp.Whole1
import Derived.Test.YtncgifjccpngfaaGreatProg
import Derived.Test.YtncgifjccpngfaaGreatChecked
import Derived.KernelRfl
import Derived.Test.YtncgifjccpngfaaGreatPenKit0
import Derived.Test.YtncgifjccpngfaaGreatPenKit1
import Derived.Test.YtncgifjccpngfaaGreatPenKit2
import Derived.Test.YtncgifjccpngfaaGreatPenKit3
import Derived.Test.YtncgifjccpngfaaGreatPenHitVisits4
import Derived.Test.YtncgifjccpngfaaGreatPenKit5
namespace Go.Proofs
open Go.Shelf
def Tryz.lays189_ren : Go.Shelf.Ren := ⟨fun | 189 => 111 | 125 => 165 | 257 => 164 | 128 => 206 | 129 => 207 | 294 => 197 | 295 => 198 | 296 => 199 | 297 => 200 | 298 => 201 | 299 => 202 | 216 => 203 | 300 => 204 | 301 => 205 | 328 => 219 | 329 => 220 | 330 => 221 | 331 => 222 | 332 => 223 | 215 => 211 | 343 => 232 | n => n, fun | 28 => 34 | 3 => 3 | 46 => 243 | 0 => 0 | 51 => 276 | 53 => 211 | 4 => 4 | 183 => 268 | 182 => 267 | 131 => 273 | 5 => 5 | 9 => 9 | 218 => 294 | 222 => 298 | 228 => 305 | 229 => 306 | n => n, fun | n => n⟩
theorem Tryz.lays189 : Go.Proofs.Lays.n189 Tryz.prog Tryz.lays189_ren := {
  mixed := by kernel_rfl
  f125 := Tryz.func165.trans (congrArg some (by kernel_rfl))
  f128 := Tryz.func206.trans (congrArg some (by kernel_rfl))
  f129 := Tryz.func207.trans (congrArg some (by kernel_rfl))
  f189 := Tryz.func111.trans (congrArg some (by kernel_rfl))
  f215 := Tryz.func211.trans (congrArg some (by kernel_rfl))
  f216 := Tryz.func203.trans (congrArg some (by kernel_rfl))
  f257 := Tryz.func164.trans (congrArg some (by kernel_rfl))
  f294 := Tryz.func197.trans (congrArg some (by kernel_rfl))
  f295 := Tryz.func198.trans (congrArg some (by kernel_rfl))
  f296 := Tryz.func199.trans (congrArg some (by kernel_rfl))
  f297 := Tryz.func200.trans (congrArg some (by kernel_rfl))
  f298 := Tryz.func201.trans (congrArg some (by kernel_rfl))
  f299 := Tryz.func202.trans (congrArg some (by kernel_rfl))
  f300 := Tryz.func204.trans (congrArg some (by kernel_rfl))
  f301 := Tryz.func205.trans (congrArg some (by kernel_rfl))
  f328 := Tryz.func219.trans (congrArg some (by kernel_rfl))
  f329 := Tryz.func220.trans (congrArg some (by kernel_rfl))
  f330 := Tryz.func221.trans (congrArg some (by kernel_rfl))
  f331 := Tryz.func222.trans (congrArg some (by kernel_rfl))
  f332 := Tryz.func223.trans (congrArg some (by kernel_rfl))
  f343 := Tryz.func232.trans (congrArg some (by kernel_rfl))
  t0 := Tryz.underlying0
  a0 := Tryz.isAgg0
  z0 := Tryz.sizeOf0
  v0 := Tryz.zeroValue0
  t3 := Tryz.underlying3
  a3 := Tryz.isAgg3
  z3 := Tryz.sizeOf3
  v3 := Tryz.zeroValue3
  t4 := Tryz.underlying4
  a4 := Tryz.isAgg4
  z4 := Tryz.sizeOf4
  v4 := Tryz.zeroValue4
  t5 := Tryz.underlying5
  a5 := Tryz.isAgg5
  z5 := Tryz.sizeOf5
  v5 := Tryz.zeroValue5
  t9 := Tryz.underlying9
  a9 := Tryz.isAgg9
  z9 := Tryz.sizeOf9
  v9 := Tryz.zeroValue9
  t28 := Tryz.underlying34
  a28 := Tryz.isAgg34
  z28 := Tryz.sizeOf34
  v28 := Tryz.zeroValue34
  t46 := Tryz.underlying243
  a46 := Tryz.isAgg243
  z46 := Tryz.sizeOf243
  v46 := Tryz.zeroValue243
  t51 := Tryz.underlying276
  a51 := Tryz.isAgg276
  z51 := Tryz.sizeOf276
  v51 := Tryz.zeroValue276
  t53 := Tryz.underlying211
  a53 := Tryz.isAgg211
  z53 := Tryz.sizeOf211
  v53 := Tryz.zeroValue211
  t131 := Tryz.underlying273
  a131 := Tryz.isAgg273
  z131 := Tryz.sizeOf273
  v131 := Tryz.zeroValue273
  t182 := Tryz.underlying267
  a182 := Tryz.isAgg267
  z182 := Tryz.sizeOf267
  v182 := Tryz.zeroValue267
  t183 := Tryz.underlying268
  a183 := Tryz.isAgg268
  z183 := Tryz.sizeOf268
  v183 := Tryz.zeroValue268
  t218 := Tryz.underlying294
  a218 := Tryz.isAgg294
  z218 := Tryz.sizeOf294
  v218 := Tryz.zeroValue294
  t222 := Tryz.underlying298
  a222 := Tryz.isAgg298
  z222 := Tryz.sizeOf298
  v222 := Tryz.zeroValue298
  t228 := Tryz.underlying305
  a228 := Tryz.isAgg305
  z228 := Tryz.sizeOf305
  v228 := Tryz.zeroValue305
  t229 := Tryz.underlying306
  a229 := Tryz.isAgg306
  z229 := Tryz.sizeOf306
  v229 := Tryz.zeroValue306 }
open Go.Sort Go.RowKit in
theorem Tryz.slices_Sort_int (blk off cap : Nat) (zs : List Int) (w : World) (hH : Holds (Value.int .i64) w blk off zs.toArray) (hblk : blk < w.heap.size) (hsz : zs.length < 4611686018427387904) :
    Calls Tryz.prog 111 #[.slice (some ⟨blk, off, none⟩) zs.length cap] w fun e w' =>
      e = .returned (.tuple #[]) ∧ ∃ n os, w' = grow (putRow (Value.int .i64) (Sort.ahead w n) blk off (zs.mergeSort fun x y => decide (x ≤ y)).toArray) os := Any.slices_Sort_int Tryz.lays189 blk off cap zs w hH hblk hsz
open Go.RowKit Go.Sort in
theorem Tryz.slices_Sort_int_none (p : Option Addr) (cap : Nat) (w : World) :
    Calls Tryz.prog 111 #[.slice p 0 cap] w fun e w' => e = .returned (.tuple #[]) ∧ w' = w := Any.slices_Sort_int_none Tryz.lays189 p cap w
def Tryz.sortL_ren : Go.Shelf.Ren := ⟨fun | 6 => 169 | 15 => 165 | 14 => 209 | 28 => 206 | 29 => 207 | 20 => 224 | 21 => 225 | 22 => 226 | 23 => 227 | 24 => 228 | 25 => 229 | 26 => 230 | 27 => 231 | 46 => 233 | 47 => 220 | 48 => 221 | 49 => 234 | 50 => 235 | 57 => 236 | n => n, fun | 22 => 34 | 24 => 3 | 25 => 199 | 3 => 3 | 39 => 243 | 0 => 0 | 53 => 276 | 55 => 211 | 4 => 4 | 46 => 268 | 45 => 267 | 50 => 273 | 5 => 5 | 9 => 9 | 66 => 294 | 70 => 298 | 76 => 305 | 77 => 306 | n => n, fun | n => n⟩
theorem Tryz.sortL : Go.Proofs.SlLaysF.n6 Tryz.prog Tryz.sortL_ren := {
  mixed := by kernel_rfl
  f6 := ⟨Tryz.f169.name, by decide, Tryz.func169.trans (congrArg some (by kernel_rfl))⟩
  f14 := ⟨Tryz.f209.name, by decide, Tryz.func209.trans (congrArg some (by kernel_rfl))⟩
  f15 := Tryz.func165.trans (congrArg some (by kernel_rfl))
  f20 := ⟨Tryz.f224.name, by decide, Tryz.func224.trans (congrArg some (by kernel_rfl))⟩
  f21 := ⟨Tryz.f225.name, by decide, Tryz.func225.trans (congrArg some (by kernel_rfl))⟩
  f22 := ⟨Tryz.f226.name, by decide, Tryz.func226.trans (congrArg some (by kernel_rfl))⟩
  f23 := ⟨Tryz.f227.name, by decide, Tryz.func227.trans (congrArg some (by kernel_rfl))⟩
  f24 := ⟨Tryz.f228.name, by decide, Tryz.func228.trans (congrArg some (by kernel_rfl))⟩
  f25 := ⟨Tryz.f229.name, by decide, Tryz.func229.trans (congrArg some (by kernel_rfl))⟩
  f26 := ⟨Tryz.f230.name, by decide, Tryz.func230.trans (congrArg some (by kernel_rfl))⟩
  f27 := ⟨Tryz.f231.name, by decide, Tryz.func231.trans (congrArg some (by kernel_rfl))⟩
  f28 := Tryz.func206.trans (congrArg some (by kernel_rfl))
  f29 := Tryz.func207.trans (congrArg some (by kernel_rfl))
  f46 := ⟨Tryz.f233.name, by decide, Tryz.func233.trans (congrArg some (by kernel_rfl))⟩
  f47 := Tryz.func220.trans (congrArg some (by kernel_rfl))
  f48 := Tryz.func221.trans (congrArg some (by kernel_rfl))
  f49 := ⟨Tryz.f234.name, by decide, Tryz.func234.trans (congrArg some (by kernel_rfl))⟩
  f50 := ⟨Tryz.f235.name, by decide, Tryz.func235.trans (congrArg some (by kernel_rfl))⟩
  f57 := ⟨Tryz.f236.name, by decide, Tryz.func236.trans (congrArg some (by kernel_rfl))⟩
  t0 := Tryz.underlying0
  a0 := Tryz.isAgg0
  z0 := Tryz.sizeOf0
  v0 := Tryz.zeroValue0
  t3 := Tryz.underlying3
  a3 := Tryz.isAgg3
  z3 := Tryz.sizeOf3
  v3 := Tryz.zeroValue3
  t4 := Tryz.underlying4
  a4 := Tryz.isAgg4
  z4 := Tryz.sizeOf4
  v4 := Tryz.zeroValue4
  t5 := Tryz.underlying5
  a5 := Tryz.isAgg5
  z5 := Tryz.sizeOf5
  v5 := Tryz.zeroValue5
  t9 := Tryz.underlying9
  a9 := Tryz.isAgg9
  z9 := Tryz.sizeOf9
  v9 := Tryz.zeroValue9
  t22 := Tryz.underlying34
  a22 := Tryz.isAgg34
  z22 := Tryz.sizeOf34
  v22 := Tryz.zeroValue34
  a24 := Tryz.isAgg3
  z24 := Tryz.sizeOf3
  t25 := Tryz.underlying199
  a25 := Tryz.isAgg199
  z25 := Tryz.sizeOf199
  v25 := Tryz.zeroValue199
  t39 := Tryz.underlying243
  a39 := Tryz.isAgg243
  z39 := Tryz.sizeOf243
  v39 := Tryz.zeroValue243
  t45 := Tryz.underlying267
  a45 := Tryz.isAgg267
  z45 := Tryz.sizeOf267
  v45 := Tryz.zeroValue267
  t46 := Tryz.underlying268
  a46 := Tryz.isAgg268
  z46 := Tryz.sizeOf268
  v46 := Tryz.zeroValue268
  t50 := Tryz.underlying273
  a50 := Tryz.isAgg273
  z50 := Tryz.sizeOf273
  v50 := Tryz.zeroValue273
  t53 := Tryz.underlying276
  a53 := Tryz.isAgg276
  z53 := Tryz.sizeOf276
  v53 := Tryz.zeroValue276
  t55 := Tryz.underlying211
  a55 := Tryz.isAgg211
  z55 := Tryz.sizeOf211
  v55 := Tryz.zeroValue211
  t66 := Tryz.underlying294
  a66 := Tryz.isAgg294
  z66 := Tryz.sizeOf294
  v66 := Tryz.zeroValue294
  t70 := Tryz.underlying298
  a70 := Tryz.isAgg298
  z70 := Tryz.sizeOf298
  v70 := Tryz.zeroValue298
  t76 := Tryz.underlying305
  a76 := Tryz.isAgg305
  z76 := Tryz.sizeOf305
  v76 := Tryz.zeroValue305
  t77 := Tryz.underlying306
  a77 := Tryz.isAgg306
  z77 := Tryz.sizeOf306
  v77 := Tryz.zeroValue306 }
end Go.Proofs

namespace Go.Proofs.Pen
open Go Go.Proofs Go.RowKit
theorem sorts_fn : SortsFn Tryz.prog 169 := fun _ _ cf hO g cb blk off cap d w eg hcmp hH hblk hsz hT => Any.slices_SortFunc_total Tryz.sortL _ (fun _ => rfl) cf hO g cb blk off cap d w eg hcmp hH hblk hsz hT
theorem sorts_int : SortsInt Tryz.prog 111 := ⟨fun blk off cap zs w hH hblk hsz => Tryz.slices_Sort_int blk off cap zs w hH hblk hsz, fun p cap w => Tryz.slices_Sort_int_none p cap w⟩
end Go.Proofs.Pen

namespace Go.Proofs.Pen
open Go Go.Proofs
abbrev TI : Ty := (.int .i64)
abbrev TV : Ty := (.st (.pair .flt (.pair .flt .flt)))
abbrev THit : Ty := (.st (.pair (.int .i64) (.pair .flt (.pair .flt .flt))))
abbrev TBox : Ty := (.st (.pair (.st (.pair .flt (.pair .flt .flt))) (.st (.pair .flt (.pair .flt .flt)))))
abbrev TTri : Ty := (.st (.pair (.st (.pair .flt (.pair .flt .flt))) (.pair (.st (.pair .flt (.pair .flt .flt))) (.st (.pair .flt (.pair .flt .flt))))))
abbrev TNode : Ty := (.st (.pair (.st (.pair (.st (.pair .flt (.pair .flt .flt))) (.st (.pair .flt (.pair .flt .flt))))) (.pair (.int .i64) (.pair (.int .i64) (.pair (.int .i64) (.int .i64))))))
abbrev TTree : Ty := (.st (.pair (.sl (.st (.pair (.st (.pair (.st (.pair .flt (.pair .flt .flt))) (.st (.pair .flt (.pair .flt .flt))))) (.pair (.int .i64) (.pair (.int .i64) (.pair (.int .i64) (.int .i64))))))) (.sl (.int .i64))))
abbrev TBld : Ty := (.st (.pair (.sl (.st (.pair (.st (.pair .flt (.pair .flt .flt))) (.st (.pair .flt (.pair .flt .flt)))))) (.pair (.sl (.st (.pair .flt (.pair .flt .flt)))) (.pair .bool (.ptr (.st (.pair (.sl (.st (.pair (.st (.pair (.st (.pair .flt (.pair .flt .flt))) (.st (.pair .flt (.pair .flt .flt))))) (.pair (.int .i64) (.pair (.int .i64) (.pair (.int .i64) (.int .i64))))))) (.sl (.int .i64)))))))))
theorem mixed : Tryz.prog.follows .mixedOrders = true := by kernel_rfl
theorem xFB : ExOK Tryz.prog 128 fromBitsAV := fromBits_ok (by intros; kernel_rfl)
noncomputable def Xs : Nat → List AV → T AV := ext noQ 128 fromBitsAV
theorem Xok : QuietOK Tryz.prog Xs := quiet_extE (quiet_none _) xFB
noncomputable def tb : DTab := (tbExt (tbExt tbNone 63 (cloneD TI 8)) 52 (cloneD TNode 80))
theorem tbOk : TBOK Tryz.prog tb := (tb_ext (tb_ext (tb_none _) (clone_deep (F := { quiet := noQ, deep := noDeep }) (D := D0) (S := noS) mixed (quiet_none _) (deep_none _) Tryz.func63 (by kernel_rfl) (fun c _ => sok_none _ 0 c) (by kernel_rfl) (t := TI) (bt := 8) (by kernel_rfl) (fun v => by kernel_rfl) (fun xs => by kernel_rfl))) (clone_deep (F := { quiet := noQ, deep := noDeep }) (D := D0) (S := noS) mixed (quiet_none _) (deep_none _) Tryz.func52 (by kernel_rfl) (fun c _ => sok_none _ 0 c) (by kernel_rfl) (t := TNode) (bt := 80) (by kernel_rfl) (fun v => by kernel_rfl) (fun xs => by kernel_rfl)))
end Go.Proofs.Pen

namespace Go.Proofs.Pen
open Go Go.Proofs
noncomputable def math_Inf.t (x : Int) : T ((Option Nat)) := T.ite (decide (x ≥ (0 : Int))) (T.ret (some (Int.toNat (9218868437227405312 : Int)))) (T.ret (some (Int.toNat (18442240474082181120 : Int))))
noncomputable def math_Inf (x : Int) : Option ((Option Nat)) := (math_Inf.t x).run
noncomputable def math_Inf.q : List AV → T AV := entry [TI] (outR [.flt]) fun x => .opt (math_Inf x) .ret
theorem math_Inf.ok : FnOK Tryz.prog 71 math_Inf.q :=
  entry_call (ps := [TI]) (rs := [.flt]) (F := ({ quiet := Xs, deep := noDeep } : Fns)) (D := D0) (S := tabS []) (t := math_Inf.t) mixed Xok (deep_none _) Tryz.func71 (by kernel_rfl) (sok_fn trivial) (by kernel_rfl) (fun x => by kernel_rfl)
end Go.Proofs.Pen

namespace Go.Proofs.Pen
open Go Go.Proofs
noncomputable def box_Empty.t (_ : Unit) : T (((Option Nat × Option Nat × Option Nat) × Option Nat × Option Nat × Option Nat)) := T.opt (math_Inf (1 : Int)) fun y => T.ret ((y, y, y), Option.map (Op.negFloat FloatKind.f64) y, Option.map (Op.negFloat FloatKind.f64) y, Option.map (Op.negFloat FloatKind.f64) y)
noncomputable def box_Empty (x : Unit) : Option (((Option Nat × Option Nat × Option Nat) × Option Nat × Option Nat × Option Nat)) := (box_Empty.t x).run
noncomputable def box_Empty.q : List AV → T AV := entry [] (outR [TBox]) fun x => .opt (box_Empty x) .ret
theorem box_Empty.ok : FnOK Tryz.prog 107 box_Empty.q :=
  entry_call (ps := []) (rs := [TBox]) (F := ({ quiet := (ext Xs 71 math_Inf.q), deep := noDeep } : Fns)) (D := D0) (S := tabS []) (t := box_Empty.t) mixed (quiet_ext Xok math_Inf.ok) (deep_none _) Tryz.func107 (by kernel_rfl) (sok_fn trivial) (by kernel_rfl) (fun x => by kernel_rfl)
end Go.Proofs.Pen

namespace Go.Proofs.Pen
open Go Go.Proofs
noncomputable def box_less.t (x : (Option Nat) × (Option Nat)) : T ((Option Nat)) := T.ite (ford x.2 x.1 == some Ordering.lt) (T.ret x.2) (T.ret x.1)
noncomputable def box_less (x : (Option Nat) × (Option Nat)) : Option ((Option Nat)) := (box_less.t x).run
noncomputable def box_less.q : List AV → T AV := entry [.flt, .flt] (outR [.flt]) fun x => .opt (box_less x) .ret
theorem box_less.ok : FnOK Tryz.prog 195 box_less.q :=
  entry_call (ps := [.flt, .flt]) (rs := [.flt]) (F := ({ quiet := Xs, deep := noDeep } : Fns)) (D := D0) (S := tabS []) (t := box_less.t) mixed Xok (deep_none _) Tryz.func195 (by kernel_rfl) (sok_fn trivial) (by kernel_rfl) (fun x => by kernel_rfl)
end Go.Proofs.Pen

namespace Go.Proofs.Pen
open Go Go.Proofs
noncomputable def box_more.t (x : (Option Nat) × (Option Nat)) : T ((Option Nat)) := T.ite (ford x.2 x.1 == some Ordering.gt) (T.ret x.2) (T.ret x.1)
noncomputable def box_more (x : (Option Nat) × (Option Nat)) : Option ((Option Nat)) := (box_more.t x).run
noncomputable def box_more.q : List AV → T AV := entry [.flt, .flt] (outR [.flt]) fun x => .opt (box_more x) .ret
theorem box_more.ok : FnOK Tryz.prog 196 box_more.q :=
  entry_call (ps := [.flt, .flt]) (rs := [.flt]) (F := ({ quiet := Xs, deep := noDeep } : Fns)) (D := D0) (S := tabS []) (t := box_more.t) mixed Xok (deep_none _) Tryz.func196 (by kernel_rfl) (sok_fn trivial) (by kernel_rfl) (fun x => by kernel_rfl)
end Go.Proofs.Pen

namespace Go.Proofs.Pen
open Go Go.Proofs
noncomputable def box_Join.t (x : ((Option Nat × Option Nat × Option Nat) × Option Nat × Option Nat × Option Nat) × ((Option Nat × Option Nat × Option Nat) × Option Nat × Option Nat × Option Nat)) : T (((Option Nat × Option Nat × Option Nat) × Option Nat × Option Nat × Option Nat)) := T.opt (box_less (x.1.1.1, x.2.1.1)) fun y => T.opt (box_less (x.1.1.2.1, x.2.1.2.1)) fun y_1 => T.opt (box_less (x.1.1.2.2, x.2.1.2.2)) fun y_2 => T.opt (box_more (x.1.2.1, x.2.2.1)) fun y_3 => T.opt (box_more (x.1.2.2.1, x.2.2.2.1)) fun y_4 => T.opt (box_more (x.1.2.2.2, x.2.2.2.2)) fun y_5 => T.ret ((y, y_1, y_2), y_3, y_4, y_5)
noncomputable def box_Join (x : ((Option Nat × Option Nat × Option Nat) × Option Nat × Option Nat × Option Nat) × ((Option Nat × Option Nat × Option Nat) × Option Nat × Option Nat × Option Nat)) : Option (((Option Nat × Option Nat × Option Nat) × Option Nat × Option Nat × Option Nat)) := (box_Join.t x).run
noncomputable def box_Join.q : List AV → T AV := entry [TBox, TBox] (outR [TBox]) fun x => .opt (box_Join x) .ret
theorem box_Join.ok : FnOK Tryz.prog 162 box_Join.q :=
  entry_call (ps := [TBox, TBox]) (rs := [TBox]) (F := ({ quiet := (ext (ext Xs 195 box_less.q) 196 box_more.q), deep := noDeep } : Fns)) (D := D0) (S := tabS []) (t := box_Join.t) mixed (quiet_ext (quiet_ext Xok box_less.ok) box_more.ok) (deep_none _) Tryz.func162 (by kernel_rfl) (sok_fn trivial) (by kernel_rfl) (fun x => by kernel_rfl)
end Go.Proofs.Pen

namespace Go.Proofs.Pen
open Go Go.Proofs
def bvh_builder_around.L0 : List (Nat × Lay) := [(0, .val (.ptr TBld)), (4, .box TBox), (5, .box TBox), (9, .val (.sl TI)), (10, .val TI), (11, .val TI)]
noncomputable def bvh_builder_around.t0 (x : ((List ((Option Nat × Option Nat × Option Nat) × Option Nat × Option Nat × Option Nat)) × (List (Option Nat × Option Nat × Option Nat)) × Bool × (List (((Option Nat × Option Nat × Option Nat) × Option Nat × Option Nat × Option Nat) × Int × Int × Int × Int)) × List (Int)) × ((Option Nat × Option Nat × Option Nat) × Option Nat × Option Nat × Option Nat) × ((Option Nat × Option Nat × Option Nat) × Option Nat × Option Nat × Option Nat) × (List (Int)) × Int × Int × Unit) : T (Ex × ((List ((Option Nat × Option Nat × Option Nat) × Option Nat × Option Nat × Option Nat)) × (List (Option Nat × Option Nat × Option Nat)) × Bool × (List (((Option Nat × Option Nat × Option Nat) × Option Nat × Option Nat × Option Nat) × Int × Int × Int × Int)) × List (Int)) × ((Option Nat × Option Nat × Option Nat) × Option Nat × Option Nat × Option Nat) × ((Option Nat × Option Nat × Option Nat) × Option Nat × Option Nat × Option Nat) × (List (Int)) × Int × Int × Unit) := T.ite (decide (x.2.2.2.2.2.1 < x.2.2.2.2.1)) (T.opt (lget x.2.2.2.1 x.2.2.2.2.2.1) fun y => T.opt (lget x.1.1 y) fun y => T.opt (box_Join (x.2.2.1, y)) fun y => T.ret (Ex.normal, x.1, x.2.1, y, x.2.2.2.1, x.2.2.2.2.1, W (x.2.2.2.2.2.1 + (1 : Int)), ())) (T.ret (Ex.exit (0 : Nat), x.1, x.2.1, x.2.2.1, x.2.2.2.1, x.2.2.2.2.1, x.2.2.2.2.2.1, ()))
noncomputable def bvh_builder_around.l0 (x : ((List ((Option Nat × Option Nat × Option Nat) × Option Nat × Option Nat × Option Nat)) × (List (Option Nat × Option Nat × Option Nat)) × Bool × (List (((Option Nat × Option Nat × Option Nat) × Option Nat × Option Nat × Option Nat) × Int × Int × Int × Int)) × List (Int)) × ((Option Nat × Option Nat × Option Nat) × Option Nat × Option Nat × Option Nat) × ((Option Nat × Option Nat × Option Nat) × Option Nat × Option Nat × Option Nat) × (List (Int)) × Int × Int × Unit) : Option (Ex × ((List ((Option Nat × Option Nat × Option Nat) × Option Nat × Option Nat × Option Nat)) × (List (Option Nat × Option Nat × Option Nat)) × Bool × (List (((Option Nat × Option Nat × Option Nat) × Option Nat × Option Nat × Option Nat) × Int × Int × Int × Int)) × List (Int)) × ((Option Nat × Option Nat × Option Nat) × Option Nat × Option Nat × Option Nat) × ((Option Nat × Option Nat × Option Nat) × Option Nat × Option Nat × Option Nat) × (List (Int)) × Int × Int × Unit) := (iterT bvh_builder_around.t0 rounds x).run
theorem bvh_builder_around.k0 : bodies 0 (lp Tryz.f110 []) = [.loop (loopIn 0 (lp Tryz.f110 []))] ∧ WP Tryz.prog 0 (.block 0 (.loop (loopIn 0 (lp Tryz.f110 [])))) (loopS bvh_builder_around.L0 26 0 [.exit 0] bvh_builder_around.l0) :=
  loop_tree (L := bvh_builder_around.L0) (F := ({ quiet := (ext (ext Xs 107 box_Empty.q) 162 box_Join.q), deep := noDeep } : Fns)) (D := D0) (tab := []) (t := bvh_builder_around.t0) mixed (quiet_ext (quiet_ext Xok box_Empty.ok) box_Join.ok) (deep_none _) (fun _ => rfl) (by kernel_rfl) (by kernel_rfl) trivial (fun x => by kernel_rfl)
noncomputable def bvh_builder_around.t (x : ((List ((Option Nat × Option Nat × Option Nat) × Option Nat × Option Nat × Option Nat)) × (List (Option Nat × Option Nat × Option Nat)) × Bool × (List (((Option Nat × Option Nat × Option Nat) × Option Nat × Option Nat × Option Nat) × Int × Int × Int × Int)) × List (Int)) × (List (Int))) : T (((Option Nat × Option Nat × Option Nat) × Option Nat × Option Nat × Option Nat)) := T.opt (box_Empty ()) fun y => T.opt (bvh_builder_around.l0 (x.1, ((some (0 : Nat), some (0 : Nat), some (0 : Nat)), some (0 : Nat), some (0 : Nat), some (0 : Nat)), y, x.2, (↑(List.length x.2) : Int), (0 : Int), ())) fun y => T.ite (exEq y.1 (Ex.exit (0 : Nat))) (T.ret y.2.2.2.1) T.fail
noncomputable def bvh_builder_around (x : ((List ((Option Nat × Option Nat × Option Nat) × Option Nat × Option Nat × Option Nat)) × (List (Option Nat × Option Nat × Option Nat)) × Bool × (List (((Option Nat × Option Nat × Option Nat) × Option Nat × Option Nat × Option Nat) × Int × Int × Int × Int)) × List (Int)) × (List (Int))) : Option (((Option Nat × Option Nat × Option Nat) × Option Nat × Option Nat × Option Nat)) := (bvh_builder_around.t x).run
noncomputable def bvh_builder_around.q : List AV → T AV := entry [(.ptr TBld), (.sl TI)] (outR [TBox]) fun x => .opt (bvh_builder_around x) .ret
theorem bvh_builder_around.ok : FnOK Tryz.prog 110 bvh_builder_around.q :=
  entry_call (ps := [(.ptr TBld), (.sl TI)]) (rs := [TBox]) (F := ({ quiet := (ext (ext Xs 107 box_Empty.q) 162 box_Join.q), deep := noDeep } : Fns)) (D := D0) (S := tabS [(0, loopS bvh_builder_around.L0 26 0 [.exit 0] bvh_builder_around.l0)]) (t := bvh_builder_around.t) mixed (quiet_ext (quiet_ext Xok box_Empty.ok) box_Join.ok) (deep_none _) Tryz.func110 (by kernel_rfl) (sok_fn ⟨bvh_builder_around.k0, trivial⟩) (by kernel_rfl) (fun x => by kernel_rfl)
end Go.Proofs.Pen

namespace Go.Proofs.Pen
open Go Go.Proofs
noncomputable def box_Grow.t (x : ((Option Nat × Option Nat × Option Nat) × Option Nat × Option Nat × Option Nat) × (Option Nat × Option Nat × Option Nat)) : T (((Option Nat × Option Nat × Option Nat) × Option Nat × Option Nat × Option Nat)) := T.opt (box_Join (x.1, x.2, x.2)) fun y => T.ret y
noncomputable def box_Grow (x : ((Option Nat × Option Nat × Option Nat) × Option Nat × Option Nat × Option Nat) × (Option Nat × Option Nat × Option Nat)) : Option (((Option Nat × Option Nat × Option Nat) × Option Nat × Option Nat × Option Nat)) := (box_Grow.t x).run
noncomputable def box_Grow.q : List AV → T AV := entry [TBox, TV] (outR [TBox]) fun x => .opt (box_Grow x) .ret
theorem box_Grow.ok : FnOK Tryz.prog 106 box_Grow.q :=
  entry_call (ps := [TBox, TV]) (rs := [TBox]) (F := ({ quiet := (ext Xs 162 box_Join.q), deep := noDeep } : Fns)) (D := D0) (S := tabS []) (t := box_Grow.t) mixed (quiet_ext Xok box_Join.ok) (deep_none _) Tryz.func106 (by kernel_rfl) (sok_fn trivial) (by kernel_rfl) (fun x => by kernel_rfl)
end Go.Proofs.Pen

namespace Go.Proofs.Pen
open Go Go.Proofs
def bvh_builder_middles.L0 : List (Nat × Lay) := [(0, .val (.ptr TBld)), (4, .box TBox), (5, .box TBox), (9, .val (.sl TI)), (10, .val TI), (11, .val TI)]
noncomputable def bvh_builder_middles.t0 (x : ((List ((Option Nat × Option Nat × Option Nat) × Option Nat × Option Nat × Option Nat)) × (List (Option Nat × Option Nat × Option Nat)) × Bool × (List (((Option Nat × Option Nat × Option Nat) × Option Nat × Option Nat × Option Nat) × Int × Int × Int × Int)) × List (Int)) × ((Option Nat × Option Nat × Option Nat) × Option Nat × Option Nat × Option Nat) × ((Option Nat × Option Nat × Option Nat) × Option Nat × Option Nat × Option Nat) × (List (Int)) × Int × Int × Unit) : T (Ex × ((List ((Option Nat × Option Nat × Option Nat) × Option Nat × Option Nat × Option Nat)) × (List (Option Nat × Option Nat × Option Nat)) × Bool × (List (((Option Nat × Option Nat × Option Nat) × Option Nat × Option Nat × Option Nat) × Int × Int × Int × Int)) × List (Int)) × ((Option Nat × Option Nat × Option Nat) × Option Nat × Option Nat × Option Nat) × ((Option Nat × Option Nat × Option Nat) × Option Nat × Option Nat × Option Nat) × (List (Int)) × Int × Int × Unit) := T.ite (decide (x.2.2.2.2.2.1 < x.2.2.2.2.1)) (T.opt (lget x.2.2.2.1 x.2.2.2.2.2.1) fun y => T.opt (lget x.1.2.1 y) fun y => T.opt (box_Grow (x.2.2.1, y)) fun y => T.ret (Ex.normal, x.1, x.2.1, y, x.2.2.2.1, x.2.2.2.2.1, W (x.2.2.2.2.2.1 + (1 : Int)), ())) (T.ret (Ex.exit (0 : Nat), x.1, x.2.1, x.2.2.1, x.2.2.2.1, x.2.2.2.2.1, x.2.2.2.2.2.1, ()))
noncomputable def bvh_builder_middles.l0 (x : ((List ((Option Nat × Option Nat × Option Nat) × Option Nat × Option Nat × Option Nat)) × (List (Option Nat × Option Nat × Option Nat)) × Bool × (List (((Option Nat × Option Nat × Option Nat) × Option Nat × Option Nat × Option Nat) × Int × Int × Int × Int)) × List (Int)) × ((Option Nat × Option Nat × Option Nat) × Option Nat × Option Nat × Option Nat) × ((Option Nat × Option Nat × Option Nat) × Option Nat × Option Nat × Option Nat) × (List (Int)) × Int × Int × Unit) : Option (Ex × ((List ((Option Nat × Option Nat × Option Nat) × Option Nat × Option Nat × Option Nat)) × (List (Option Nat × Option Nat × Option Nat)) × Bool × (List (((Option Nat × Option Nat × Option Nat) × Option Nat × Option Nat × Option Nat) × Int × Int × Int × Int)) × List (Int)) × ((Option Nat × Option Nat × Option Nat) × Option Nat × Option Nat × Option Nat) × ((Option Nat × Option Nat × Option Nat) × Option Nat × Option Nat × Option Nat) × (List (Int)) × Int × Int × Unit) := (iterT bvh_builder_middles.t0 rounds x).run
theorem bvh_builder_middles.k0 : bodies 0 (lp Tryz.f112 []) = [.loop (loopIn 0 (lp Tryz.f112 []))] ∧ WP Tryz.prog 0 (.block 0 (.loop (loopIn 0 (lp Tryz.f112 [])))) (loopS bvh_builder_middles.L0 26 0 [.exit 0] bvh_builder_middles.l0) :=
  loop_tree (L := bvh_builder_middles.L0) (F := ({ quiet := (ext (ext Xs 107 box_Empty.q) 106 box_Grow.q), deep := noDeep } : Fns)) (D := D0) (tab := []) (t := bvh_builder_middles.t0) mixed (quiet_ext (quiet_ext Xok box_Empty.ok) box_Grow.ok) (deep_none _) (fun _ => rfl) (by kernel_rfl) (by kernel_rfl) trivial (fun x => by kernel_rfl)
noncomputable def bvh_builder_middles.t (x : ((List ((Option Nat × Option Nat × Option Nat) × Option Nat × Option Nat × Option Nat)) × (List (Option Nat × Option Nat × Option Nat)) × Bool × (List (((Option Nat × Option Nat × Option Nat) × Option Nat × Option Nat × Option Nat) × Int × Int × Int × Int)) × List (Int)) × (List (Int))) : T (((Option Nat × Option Nat × Option Nat) × Option Nat × Option Nat × Option Nat)) := T.opt (box_Empty ()) fun y => T.opt (bvh_builder_middles.l0 (x.1, ((some (0 : Nat), some (0 : Nat), some (0 : Nat)), some (0 : Nat), some (0 : Nat), some (0 : Nat)), y, x.2, (↑(List.length x.2) : Int), (0 : Int), ())) fun y => T.ite (exEq y.1 (Ex.exit (0 : Nat))) (T.ret y.2.2.2.1) T.fail
noncomputable def bvh_builder_middles (x : ((List ((Option Nat × Option Nat × Option Nat) × Option Nat × Option Nat × Option Nat)) × (List (Option Nat × Option Nat × Option Nat)) × Bool × (List (((Option Nat × Option Nat × Option Nat) × Option Nat × Option Nat × Option Nat) × Int × Int × Int × Int)) × List (Int)) × (List (Int))) : Option (((Option Nat × Option Nat × Option Nat) × Option Nat × Option Nat × Option Nat)) := (bvh_builder_middles.t x).run
noncomputable def bvh_builder_middles.q : List AV → T AV := entry [(.ptr TBld), (.sl TI)] (outR [TBox]) fun x => .opt (bvh_builder_middles x) .ret
theorem bvh_builder_middles.ok : FnOK Tryz.prog 112 bvh_builder_middles.q :=
  entry_call (ps := [(.ptr TBld), (.sl TI)]) (rs := [TBox]) (F := ({ quiet := (ext (ext Xs 107 box_Empty.q) 106 box_Grow.q), deep := noDeep } : Fns)) (D := D0) (S := tabS [(0, loopS bvh_builder_middles.L0 26 0 [.exit 0] bvh_builder_middles.l0)]) (t := bvh_builder_middles.t) mixed (quiet_ext (quiet_ext Xok box_Empty.ok) box_Grow.ok) (deep_none _) Tryz.func112 (by kernel_rfl) (sok_fn ⟨bvh_builder_middles.k0, trivial⟩) (by kernel_rfl) (fun x => by kernel_rfl)
end Go.Proofs.Pen

namespace Go.Proofs.Pen
open Go Go.Proofs
noncomputable def vec_Add_1.t (x : (Option Nat) × (Option Nat)) : T ((Option Nat)) := T.ret (fop BinOp.add x.1 x.2)
noncomputable def vec_Add_1.q : List AV → T AV := entry [.flt, .flt] (outR [.flt]) vec_Add_1.t
theorem vec_Add_1.ok : FnOK Tryz.prog 163 vec_Add_1.q :=
  entry_in (ps := [.flt, .flt]) (rs := [.flt]) (F := ({ quiet := Xs, deep := noDeep } : Fns)) (D := D0) (S := tabS []) (t := vec_Add_1.t) mixed Xok (deep_none _) Tryz.func163 (by kernel_rfl) (sok_fn trivial) (by kernel_rfl) (fun x => by kernel_rfl)
end Go.Proofs.Pen

namespace Go.Proofs.Pen
open Go Go.Proofs
noncomputable def vec_Sub_1.t (x : (Option Nat) × (Option Nat)) : T ((Option Nat)) := T.ret (fop BinOp.sub x.1 x.2)
noncomputable def vec_Sub_1.q : List AV → T AV := entry [.flt, .flt] (outR [.flt]) vec_Sub_1.t
theorem vec_Sub_1.ok : FnOK Tryz.prog 151 vec_Sub_1.q :=
  entry_in (ps := [.flt, .flt]) (rs := [.flt]) (F := ({ quiet := Xs, deep := noDeep } : Fns)) (D := D0) (S := tabS []) (t := vec_Sub_1.t) mixed Xok (deep_none _) Tryz.func151 (by kernel_rfl) (sok_fn trivial) (by kernel_rfl) (fun x => by kernel_rfl)
end Go.Proofs.Pen

namespace Go.Proofs.Pen
open Go Go.Proofs
noncomputable def vec_Mul_1.t (x : (Option Nat) × (Option Nat)) : T ((Option Nat)) := T.ret (fop BinOp.mul x.1 x.2)
noncomputable def vec_Mul_1.q : List AV → T AV := entry [.flt, .flt] (outR [.flt]) vec_Mul_1.t
theorem vec_Mul_1.ok : FnOK Tryz.prog 192 vec_Mul_1.q :=
  entry_in (ps := [.flt, .flt]) (rs := [.flt]) (F := ({ quiet := Xs, deep := noDeep } : Fns)) (D := D0) (S := tabS []) (t := vec_Mul_1.t) mixed Xok (deep_none _) Tryz.func192 (by kernel_rfl) (sok_fn trivial) (by kernel_rfl) (fun x => by kernel_rfl)
end Go.Proofs.Pen

namespace Go.Proofs.Pen
open Go Go.Proofs
noncomputable def eachSub.t (x : (Option Nat × Option Nat × Option Nat) × (Option Nat × Option Nat × Option Nat) × Unit) : T ((Option Nat × Option Nat × Option Nat)) := T.ret (fop BinOp.sub x.1.1 x.2.1.1, fop BinOp.sub x.1.2.1 x.2.1.2.1, fop BinOp.sub x.1.2.2 x.2.1.2.2)
noncomputable def eachSub.q : List AV → T AV := entry [TV, TV, (.clo 151 .unit)] (outR [TV]) eachSub.t
theorem eachSub.ok : FnOK Tryz.prog 150 eachSub.q :=
  entry_in (ps := [TV, TV, (.clo 151 .unit)]) (rs := [TV]) (F := ({ quiet := (ext (ext (ext Xs 163 vec_Add_1.q) 151 vec_Sub_1.q) 192 vec_Mul_1.q), deep := noDeep } : Fns)) (D := D0) (S := tabS []) (t := eachSub.t) mixed (quiet_ext (quiet_ext (quiet_ext Xok vec_Add_1.ok) vec_Sub_1.ok) vec_Mul_1.ok) (deep_none _) Tryz.func150 (by kernel_rfl) (sok_fn trivial) (by kernel_rfl) (fun x => by kernel_rfl)
end Go.Proofs.Pen

namespace Go.Proofs.Pen
open Go Go.Proofs
noncomputable def vec_Sub.t (x : (Option Nat × Option Nat × Option Nat) × (Option Nat × Option Nat × Option Nat)) : T ((Option Nat × Option Nat × Option Nat)) := T.ret (fop BinOp.sub x.1.1 x.2.1, fop BinOp.sub x.1.2.1 x.2.2.1, fop BinOp.sub x.1.2.2 x.2.2.2)
noncomputable def vec_Sub (x : (Option Nat × Option Nat × Option Nat) × (Option Nat × Option Nat × Option Nat)) : Option ((Option Nat × Option Nat × Option Nat)) := (vec_Sub.t x).run
noncomputable def vec_Sub.q : List AV → T AV := entry [TV, TV] (outR [TV]) fun x => .opt (vec_Sub x) .ret
theorem vec_Sub.ok : FnOK Tryz.prog 94 vec_Sub.q :=
  entry_call (ps := [TV, TV]) (rs := [TV]) (F := ({ quiet := (ext Xs 150 eachSub.q), deep := noDeep } : Fns)) (D := D0) (S := tabS []) (t := vec_Sub.t) mixed (quiet_ext Xok eachSub.ok) (deep_none _) Tryz.func94 (by kernel_rfl) (sok_fn trivial) (by kernel_rfl) (fun x => by kernel_rfl)
end Go.Proofs.Pen

namespace Go.Proofs.Pen
open Go Go.Proofs
noncomputable def vec_Part.t (x : (Option Nat × Option Nat × Option Nat) × Int) : T ((Option Nat)) := T.ite (x.2 == (0 : Int)) (T.ret x.1.1) (T.ite (x.2 == (1 : Int)) (T.ret x.1.2.1) (T.ret x.1.2.2))
noncomputable def vec_Part (x : (Option Nat × Option Nat × Option Nat) × Int) : Option ((Option Nat)) := (vec_Part.t x).run
noncomputable def vec_Part.q : List AV → T AV := entry [TV, TI] (outR [.flt]) fun x => .opt (vec_Part x) .ret
theorem vec_Part.ok : FnOK Tryz.prog 105 vec_Part.q :=
  entry_call (ps := [TV, TI]) (rs := [.flt]) (F := ({ quiet := Xs, deep := noDeep } : Fns)) (D := D0) (S := tabS []) (t := vec_Part.t) mixed Xok (deep_none _) Tryz.func105 (by kernel_rfl) (sok_fn trivial) (by kernel_rfl) (fun x => by kernel_rfl)
end Go.Proofs.Pen

namespace Go.Proofs.Pen
open Go Go.Proofs
def box_Longest.L0 : List (Nat × Lay) := [(3, .box TV), (4, .val TI), (14, .val TI)]
noncomputable def box_Longest.t0 (x : (Option Nat × Option Nat × Option Nat) × Int × Int × Unit) : T (Ex × (Option Nat × Option Nat × Option Nat) × Int × Int × Unit) := T.ite (decide (x.2.2.1 < (3 : Int))) (T.opt (vec_Part (x.1, x.2.2.1)) fun y => T.opt (vec_Part (x.1, x.2.1)) fun y_1 => T.ite (ford y y_1 == some Ordering.gt) (T.ret (Ex.normal, x.1, x.2.2.1, W (x.2.2.1 + (1 : Int)), ())) (T.ret (Ex.normal, x.1, x.2.1, W (x.2.2.1 + (1 : Int)), ()))) (T.ret (Ex.exit (0 : Nat), x.1, x.2.1, x.2.2.1, ()))
noncomputable def box_Longest.l0 (x : (Option Nat × Option Nat × Option Nat) × Int × Int × Unit) : Option (Ex × (Option Nat × Option Nat × Option Nat) × Int × Int × Unit) := (iterT box_Longest.t0 rounds x).run
theorem box_Longest.k0 : bodies 0 (lp Tryz.f113 []) = [.loop (loopIn 0 (lp Tryz.f113 []))] ∧ WP Tryz.prog 0 (.block 0 (.loop (loopIn 0 (lp Tryz.f113 [])))) (loopS box_Longest.L0 27 0 [.exit 0] box_Longest.l0) :=
  loop_tree (L := box_Longest.L0) (F := ({ quiet := (ext (ext (ext (ext Xs 107 box_Empty.q) 94 vec_Sub.q) 105 vec_Part.q) 151 vec_Sub_1.q), deep := noDeep } : Fns)) (D := D0) (tab := []) (t := box_Longest.t0) mixed (quiet_ext (quiet_ext (quiet_ext (quiet_ext Xok box_Empty.ok) vec_Sub.ok) vec_Part.ok) vec_Sub_1.ok) (deep_none _) (fun _ => rfl) (by kernel_rfl) (by kernel_rfl) trivial (fun x => by kernel_rfl)
noncomputable def box_Longest.t (x : ((Option Nat × Option Nat × Option Nat) × Option Nat × Option Nat × Option Nat)) : T (Int) := T.opt (box_Empty ()) fun y => T.ite (ford x.1.1 y.1.1 == some Ordering.eq && (ford x.1.2.1 y.1.2.1 == some Ordering.eq && ford x.1.2.2 y.1.2.2 == some Ordering.eq) && (ford x.2.1 y.2.1 == some Ordering.eq && (ford x.2.2.1 y.2.2.1 == some Ordering.eq && ford x.2.2.2 y.2.2.2 == some Ordering.eq))) (T.ret (0 : Int)) (T.opt (vec_Sub (x.2, x.1)) fun y => T.opt (box_Longest.l0 (y, (0 : Int), (0 : Int), ())) fun y => T.ite (exEq y.1 (Ex.exit (0 : Nat))) (T.ret y.2.2.1) T.fail)
noncomputable def box_Longest (x : ((Option Nat × Option Nat × Option Nat) × Option Nat × Option Nat × Option Nat)) : Option (Int) := (box_Longest.t x).run
noncomputable def box_Longest.q : List AV → T AV := entry [TBox] (outR [TI]) fun x => .opt (box_Longest x) .ret
theorem box_Longest.ok : FnOK Tryz.prog 113 box_Longest.q :=
  entry_call (ps := [TBox]) (rs := [TI]) (F := ({ quiet := (ext (ext (ext (ext Xs 107 box_Empty.q) 94 vec_Sub.q) 105 vec_Part.q) 151 vec_Sub_1.q), deep := noDeep } : Fns)) (D := D0) (S := tabS [(0, loopS box_Longest.L0 27 0 [.exit 0] box_Longest.l0)]) (t := box_Longest.t) mixed (quiet_ext (quiet_ext (quiet_ext (quiet_ext Xok box_Empty.ok) vec_Sub.ok) vec_Part.ok) vec_Sub_1.ok) (deep_none _) Tryz.func113 (by kernel_rfl) (sok_fn ⟨box_Longest.k0, trivial⟩) (by kernel_rfl) (fun x => by kernel_rfl)
end Go.Proofs.Pen

namespace Go.Proofs.Pen
open Go Go.Proofs
noncomputable def bvh_builder_bin.t (x : ((List ((Option Nat × Option Nat × Option Nat) × Option Nat × Option Nat × Option Nat)) × (List (Option Nat × Option Nat × Option Nat)) × Bool × (List (((Option Nat × Option Nat × Option Nat) × Option Nat × Option Nat × Option Nat) × Int × Int × Int × Int)) × List (Int)) × Int × Int × ((Option Nat × Option Nat × Option Nat) × Option Nat × Option Nat × Option Nat)) : T (Int) := T.opt (vec_Part (x.2.2.2.1, x.2.2.1)) fun y => T.opt (vec_Part (x.2.2.2.2, x.2.2.1)) fun y_1 => T.opt (lget x.1.2.1 x.2.1) fun y_2 => T.opt (vec_Part (y_2, x.2.2.1)) fun y_3 => T.opt (f2i IntKind.i64 (fop BinOp.mul (some (4620693217682128896 : Nat)) (fop BinOp.quo (fop BinOp.sub y_3 y) (fop BinOp.sub y_1 y)))) fun y => T.ret (if (7 : Int) < y then (7 : Int) else y)
noncomputable def bvh_builder_bin (x : ((List ((Option Nat × Option Nat × Option Nat) × Option Nat × Option Nat × Option Nat)) × (List (Option Nat × Option Nat × Option Nat)) × Bool × (List (((Option Nat × Option Nat × Option Nat) × Option Nat × Option Nat × Option Nat) × Int × Int × Int × Int)) × List (Int)) × Int × Int × ((Option Nat × Option Nat × Option Nat) × Option Nat × Option Nat × Option Nat)) : Option (Int) := (bvh_builder_bin.t x).run
noncomputable def bvh_builder_bin.q : List AV → T AV := entry [(.ptr TBld), TI, TI, TBox] (outR [TI]) fun x => .opt (bvh_builder_bin x) .ret
theorem bvh_builder_bin.ok : FnOK Tryz.prog 166 bvh_builder_bin.q :=
  entry_call (ps := [(.ptr TBld), TI, TI, TBox]) (rs := [TI]) (F := ({ quiet := (ext Xs 105 vec_Part.q), deep := noDeep } : Fns)) (D := D0) (S := tabS []) (t := bvh_builder_bin.t) mixed (quiet_ext Xok vec_Part.ok) (deep_none _) Tryz.func166 (by kernel_rfl) (sok_fn trivial) (by kernel_rfl) (fun x => by kernel_rfl)
end Go.Proofs.Pen

namespace Go.Proofs.Pen
open Go Go.Proofs
noncomputable def box_Half.t (x : ((Option Nat × Option Nat × Option Nat) × Option Nat × Option Nat × Option Nat)) : T ((Option Nat)) := T.opt (vec_Sub (x.2, x.1)) fun y => T.ret (fop BinOp.add (fop BinOp.add (fop BinOp.mul y.1 y.2.1) (fop BinOp.mul y.2.1 y.2.2)) (fop BinOp.mul y.2.2 y.1))
noncomputable def box_Half (x : ((Option Nat × Option Nat × Option Nat) × Option Nat × Option Nat × Option Nat)) : Option ((Option Nat)) := (box_Half.t x).run
noncomputable def box_Half.q : List AV → T AV := entry [TBox] (outR [.flt]) fun x => .opt (box_Half x) .ret
theorem box_Half.ok : FnOK Tryz.prog 208 box_Half.q :=
  entry_call (ps := [TBox]) (rs := [.flt]) (F := ({ quiet := (ext (ext Xs 94 vec_Sub.q) 151 vec_Sub_1.q), deep := noDeep } : Fns)) (D := D0) (S := tabS []) (t := box_Half.t) mixed (quiet_ext (quiet_ext Xok vec_Sub.ok) vec_Sub_1.ok) (deep_none _) Tryz.func208 (by kernel_rfl) (sok_fn trivial) (by kernel_rfl) (fun x => by kernel_rfl)
end Go.Proofs.Pen

namespace Go.Proofs.Pen
open Go Go.Proofs
noncomputable def bvh_builder_cost.t (x : ((List ((Option Nat × Option Nat × Option Nat) × Option Nat × Option Nat × Option Nat)) × (List (Option Nat × Option Nat × Option Nat)) × Bool × (List (((Option Nat × Option Nat × Option Nat) × Option Nat × Option Nat × Option Nat) × Int × Int × Int × Int)) × List (Int)) × (List (Int)) × (List (Int))) : T ((Option Nat)) := T.opt (bvh_builder_around (x.1, x.2.1)) fun y => T.opt (box_Half y) fun y => T.opt (bvh_builder_around (x.1, x.2.2)) fun y_1 => T.opt (box_Half y_1) fun y_2 => T.ret (fop BinOp.add (fop BinOp.mul y (some (FloatKind.f64.nearest (↑(List.length x.2.1) : Int)))) (fop BinOp.mul y_2 (some (FloatKind.f64.nearest (↑(List.length x.2.2) : Int)))))
noncomputable def bvh_builder_cost (x : ((List ((Option Nat × Option Nat × Option Nat) × Option Nat × Option Nat × Option Nat)) × (List (Option Nat × Option Nat × Option Nat)) × Bool × (List (((Option Nat × Option Nat × Option Nat) × Option Nat × Option Nat × Option Nat) × Int × Int × Int × Int)) × List (Int)) × (List (Int)) × (List (Int))) : Option ((Option Nat)) := (bvh_builder_cost.t x).run
noncomputable def bvh_builder_cost.q : List AV → T AV := entry [(.ptr TBld), (.sl TI), (.sl TI)] (outR [.flt]) fun x => .opt (bvh_builder_cost x) .ret
theorem bvh_builder_cost.ok : FnOK Tryz.prog 167 bvh_builder_cost.q :=
  entry_call (ps := [(.ptr TBld), (.sl TI), (.sl TI)]) (rs := [.flt]) (F := ({ quiet := (ext (ext (ext Xs 110 bvh_builder_around.q) 208 box_Half.q) 151 vec_Sub_1.q), deep := noDeep } : Fns)) (D := D0) (S := tabS []) (t := bvh_builder_cost.t) mixed (quiet_ext (quiet_ext (quiet_ext Xok bvh_builder_around.ok) box_Half.ok) vec_Sub_1.ok) (deep_none _) Tryz.func167 (by kernel_rfl) (sok_fn trivial) (by kernel_rfl) (fun x => by kernel_rfl)
end Go.Proofs.Pen

namespace Go.Proofs.Pen
open Go Go.Proofs
noncomputable def bvh_builder_median_1.t (x : Int × ((List ((Option Nat × Option Nat × Option Nat) × Option Nat × Option Nat × Option Nat)) × (List (Option Nat × Option Nat × Option Nat)) × Bool × (List (((Option Nat × Option Nat × Option Nat) × Option Nat × Option Nat × Option Nat) × Int × Int × Int × Int)) × List (Int)) × Int) : T ((Option Nat)) := T.opt (lget x.2.1.2.1 x.1) fun y => T.opt (vec_Part (y, x.2.2)) fun y => T.ret y
noncomputable def bvh_builder_median_1 (x : Int × ((List ((Option Nat × Option Nat × Option Nat) × Option Nat × Option Nat × Option Nat)) × (List (Option Nat × Option Nat × Option Nat)) × Bool × (List (((Option Nat × Option Nat × Option Nat) × Option Nat × Option Nat × Option Nat) × Int × Int × Int × Int)) × List (Int)) × Int) : Option ((Option Nat)) := (bvh_builder_median_1.t x).run
noncomputable def bvh_builder_median_1.q : List AV → T AV := entry [TI, (.ptr (.ptr TBld)), (.ptr TI)] (outR [.flt]) fun x => .opt (bvh_builder_median_1 x) .ret
theorem bvh_builder_median_1.ok : FnOK Tryz.prog 168 bvh_builder_median_1.q :=
  entry_call (ps := [TI, (.ptr (.ptr TBld)), (.ptr TI)]) (rs := [.flt]) (F := ({ quiet := (ext Xs 105 vec_Part.q), deep := noDeep } : Fns)) (D := D0) (S := tabS []) (t := bvh_builder_median_1.t) mixed (quiet_ext Xok vec_Part.ok) (deep_none _) Tryz.func168 (by kernel_rfl) (sok_fn trivial) (by kernel_rfl) (fun x => by kernel_rfl)
end Go.Proofs.Pen

namespace Go.Proofs.Pen
open Go Go.Proofs
noncomputable def NanF.t (x : (Option Nat)) : T (Bool) := T.ret (ford x x != some Ordering.eq)
noncomputable def NanF.q : List AV → T AV := entry [.flt] (outR [.bool]) NanF.t
theorem NanF.ok : FnOK Tryz.prog 210 NanF.q :=
  entry_in (ps := [.flt]) (rs := [.bool]) (F := ({ quiet := Xs, deep := noDeep } : Fns)) (D := D0) (S := tabS []) (t := NanF.t) mixed Xok (deep_none _) Tryz.func210 (by kernel_rfl) (sok_fn trivial) (by kernel_rfl) (fun x => by kernel_rfl)
end Go.Proofs.Pen

namespace Go.Proofs.Pen
open Go Go.Proofs
noncomputable def CmpF.t (x : (Option Nat) × (Option Nat)) : T (Int) := T.ite (ford x.1 x.1 != some Ordering.eq) (T.ite (ford x.2 x.2 != some Ordering.eq) (T.ret (0 : Int)) (T.ret (-1 : Int))) (T.ite (ford x.2 x.2 != some Ordering.eq) (T.ret (1 : Int)) (T.ite (ford x.1 x.2 == some Ordering.lt) (T.ret (-1 : Int)) (T.ite (ford x.1 x.2 == some Ordering.gt) (T.ret (1 : Int)) (T.ret (0 : Int)))))
noncomputable def CmpF (x : (Option Nat) × (Option Nat)) : Option (Int) := (CmpF.t x).run
noncomputable def CmpF.q : List AV → T AV := entry [.flt, .flt] (outR [TI]) fun x => .opt (CmpF x) .ret
theorem CmpF.ok : FnOK Tryz.prog 172 CmpF.q :=
  entry_call (ps := [.flt, .flt]) (rs := [TI]) (F := ({ quiet := (ext Xs 210 NanF.q), deep := noDeep } : Fns)) (D := D0) (S := tabS []) (t := CmpF.t) mixed (quiet_ext Xok NanF.ok) (deep_none _) Tryz.func172 (by kernel_rfl) (sok_fn trivial) (by kernel_rfl) (fun x => by kernel_rfl)
end Go.Proofs.Pen

namespace Go.Proofs.Pen
open Go Go.Proofs
noncomputable def NanI.t (x : Int) : T (Bool) := T.ret (x != x)
noncomputable def NanI.q : List AV → T AV := entry [TI] (outR [.bool]) NanI.t
theorem NanI.ok : FnOK Tryz.prog 211 NanI.q :=
  entry_in (ps := [TI]) (rs := [.bool]) (F := ({ quiet := Xs, deep := noDeep } : Fns)) (D := D0) (S := tabS []) (t := NanI.t) mixed Xok (deep_none _) Tryz.func211 (by kernel_rfl) (sok_fn trivial) (by kernel_rfl) (fun x => by kernel_rfl)
end Go.Proofs.Pen

namespace Go.Proofs.Pen
open Go Go.Proofs
noncomputable def CmpI.t (x : Int × Int) : T (Int) := T.ite (x.1 != x.1) (T.ite (x.2 != x.2) (T.ret (0 : Int)) (T.ret (-1 : Int))) (T.ite (x.2 != x.2) (T.ret (1 : Int)) (T.ite (decide (x.1 < x.2)) (T.ret (-1 : Int)) (T.ite (decide (x.1 > x.2)) (T.ret (1 : Int)) (T.ret (0 : Int)))))
noncomputable def CmpI (x : Int × Int) : Option (Int) := (CmpI.t x).run
noncomputable def CmpI.q : List AV → T AV := entry [TI, TI] (outR [TI]) fun x => .opt (CmpI x) .ret
theorem CmpI.ok : FnOK Tryz.prog 173 CmpI.q :=
  entry_call (ps := [TI, TI]) (rs := [TI]) (F := ({ quiet := (ext Xs 211 NanI.q), deep := noDeep } : Fns)) (D := D0) (S := tabS []) (t := CmpI.t) mixed (quiet_ext Xok NanI.ok) (deep_none _) Tryz.func173 (by kernel_rfl) (sok_fn trivial) (by kernel_rfl) (fun x => by kernel_rfl)
end Go.Proofs.Pen

namespace Go.Proofs.Pen
open Go Go.Proofs
def cmp_Or.L0 : List (Nat × Lay) := [(2, .val TI), (3, .val TI), (6, .val (.sl TI)), (7, .val TI), (8, .val TI)]
noncomputable def cmp_Or.t0 (x : Int × Int × (List (Int)) × Int × Int × Unit) : T (Ex × Int × Int × (List (Int)) × Int × Int × Unit) := T.ite (decide (x.2.2.2.2.1 < x.2.2.2.1)) (T.opt (lget x.2.2.1 x.2.2.2.2.1) fun y => T.ite (y != x.2.1) (T.ret (Ex.ret, y, x.2.1, x.2.2.1, x.2.2.2.1, x.2.2.2.2.1, ())) (T.ret (Ex.normal, x.1, x.2.1, x.2.2.1, x.2.2.2.1, W (x.2.2.2.2.1 + (1 : Int)), ()))) (T.ret (Ex.exit (0 : Nat), x.1, x.2.1, x.2.2.1, x.2.2.2.1, x.2.2.2.2.1, ()))
noncomputable def cmp_Or.l0 (x : Int × Int × (List (Int)) × Int × Int × Unit) : Option (Ex × Int × Int × (List (Int)) × Int × Int × Unit) := (iterT cmp_Or.t0 rounds x).run
theorem cmp_Or.k0 : bodies 0 (lp Tryz.f171 []) = [.loop (loopIn 0 (lp Tryz.f171 []))] ∧ WP Tryz.prog 0 (.block 0 (.loop (loopIn 0 (lp Tryz.f171 [])))) (loopS cmp_Or.L0 18 0 [.exit 0, .ret] cmp_Or.l0) :=
  loop_tree (L := cmp_Or.L0) (F := ({ quiet := Xs, deep := noDeep } : Fns)) (D := D0) (tab := []) (t := cmp_Or.t0) mixed Xok (deep_none _) (fun _ => rfl) (by kernel_rfl) (by kernel_rfl) trivial (fun x => by kernel_rfl)
noncomputable def cmp_Or.t (x : (List (Int))) : T (Int) := T.opt (cmp_Or.l0 ((0 : Int), (0 : Int), x, (↑(List.length x) : Int), (0 : Int), ())) fun y => T.ite (exEq y.1 (Ex.exit (0 : Nat))) (T.ret y.2.2.1) (T.ite (exEq y.1 Ex.ret) (T.ret y.2.1) T.fail)
noncomputable def cmp_Or (x : (List (Int))) : Option (Int) := (cmp_Or.t x).run
noncomputable def cmp_Or.q : List AV → T AV := entry [(.sl TI)] (outR [TI]) fun x => .opt (cmp_Or x) .ret
theorem cmp_Or.ok : FnOK Tryz.prog 171 cmp_Or.q :=
  entry_call (ps := [(.sl TI)]) (rs := [TI]) (F := ({ quiet := Xs, deep := noDeep } : Fns)) (D := D0) (S := tabS [(0, loopS cmp_Or.L0 18 0 [.exit 0, .ret] cmp_Or.l0)]) (t := cmp_Or.t) mixed Xok (deep_none _) Tryz.func171 (by kernel_rfl) (sok_fn ⟨cmp_Or.k0, trivial⟩) (by kernel_rfl) (fun x => by kernel_rfl)
end Go.Proofs.Pen

namespace Go.Proofs.Pen
open Go Go.Proofs
noncomputable def bvh_builder_median_2.t (x : Int × Int × (((List ((Option Nat × Option Nat × Option Nat) × Option Nat × Option Nat × Option Nat)) × (List (Option Nat × Option Nat × Option Nat)) × Bool × (List (((Option Nat × Option Nat × Option Nat) × Option Nat × Option Nat × Option Nat) × Int × Int × Int × Int)) × List (Int)) × Int)) : T (Int) := T.opt (bvh_builder_median_1 (x.1, x.2.2)) fun y => T.opt (bvh_builder_median_1 x.2) fun y_1 => T.opt (CmpF (y, y_1)) fun y => T.opt (CmpI (x.1, x.2.1)) fun y_2 => T.opt (cmp_Or (List.take (2 : Nat) [y, y_2])) fun y => T.ret y
noncomputable def bvh_builder_median_2 (x : Int × Int × (((List ((Option Nat × Option Nat × Option Nat) × Option Nat × Option Nat × Option Nat)) × (List (Option Nat × Option Nat × Option Nat)) × Bool × (List (((Option Nat × Option Nat × Option Nat) × Option Nat × Option Nat × Option Nat) × Int × Int × Int × Int)) × List (Int)) × Int)) : Option (Int) := (bvh_builder_median_2.t x).run
noncomputable def bvh_builder_median_2.q : List AV → T AV := entry [TI, TI, (.ptr (.clo 168 (.pair (.ptr (.ptr TBld)) (.ptr TI))))] (outR [TI]) fun x => .opt (bvh_builder_median_2 x) .ret
theorem bvh_builder_median_2.ok : FnOK Tryz.prog 170 bvh_builder_median_2.q :=
  entry_call (ps := [TI, TI, (.ptr (.clo 168 (.pair (.ptr (.ptr TBld)) (.ptr TI))))]) (rs := [TI]) (F := ({ quiet := (ext (ext (ext (ext Xs 172 CmpF.q) 173 CmpI.q) 171 cmp_Or.q) 168 bvh_builder_median_1.q), deep := noDeep } : Fns)) (D := D0) (S := tabS []) (t := bvh_builder_median_2.t) mixed (quiet_ext (quiet_ext (quiet_ext (quiet_ext Xok CmpF.ok) CmpI.ok) cmp_Or.ok) bvh_builder_median_1.ok) (deep_none _) Tryz.func170 (by kernel_rfl) (sok_fn trivial) (by kernel_rfl) (fun x => by kernel_rfl)
end Go.Proofs.Pen

namespace Go.Proofs.Pen
open Go Go.Proofs
noncomputable def bvh_builder_median.deeps : Deeps := { D := [63, 169], C := [], frz := false, S := fun _ _ => noS }
theorem bvh_builder_median.deepsOk : LoopsOK Tryz.prog bvh_builder_median.deeps.S := (loops_none _)
noncomputable def bvh_builder_median.tabl : DTab := (tbExt tb 169 (frzD isOslA (sortE Tryz.prog 170 (.ptr (.clo 168 (.pair (.ptr (.ptr TBld)) (.ptr TI)))) fun x a b => bvh_builder_median_2 (a, b, x))))
theorem bvh_builder_median.tablOk : TBOK Tryz.prog bvh_builder_median.tabl := (tb_ext tbOk (frzD_ok (sortE_ok (ct := (.ptr (.clo 168 (.pair (.ptr (.ptr TBld)) (.ptr TI))))) (f := fun x a b => bvh_builder_median_2 (a, b, x)) (by kernel_rfl) sorts_fn bvh_builder_median_2.ok (fun x a b n h => by show (T.opt (bvh_builder_median_2 (a, b, x)) fun y => T.ret (AV.it .i64 y)).run = _; rw [tr_opt, h]; rfl))))
noncomputable def bvh_builder_median.t (x : ((List ((Option Nat × Option Nat × Option Nat) × Option Nat × Option Nat × Option Nat)) × (List (Option Nat × Option Nat × Option Nat)) × Bool × (List (((Option Nat × Option Nat × Option Nat) × Option Nat × Option Nat × Option Nat) × Int × Int × Int × Int)) × List (Int)) × (List (Int)) × Int) : T ((List (Int)) × (List (Int))) := T.ite (decide (List.length x.2.1 * (8 : Nat) ≤ most)) (T.opt (sortO (fun a b => bvh_builder_median_2 (a, b, x.1, x.2.2)) (List.take (List.length x.2.1) (intsOf rfl x.2.1))) fun y => T.ite (decide ((0 : Int) ≤ (0 : Int)) && decide ((0 : Int) ≤ W ((↑(List.length x.2.1) : Int).tdiv (2 : Int))) && decide (W ((↑(List.length x.2.1) : Int).tdiv (2 : Int)) ≤ (↑(List.length x.2.1) : Int))) (T.ite (decide ((0 : Int) ≤ W ((↑(List.length x.2.1) : Int).tdiv (2 : Int))) && decide (W ((↑(List.length x.2.1) : Int).tdiv (2 : Int)) ≤ (↑(List.length x.2.1) : Int)) && decide ((↑(List.length x.2.1) : Int) ≤ (↑(List.length x.2.1) : Int))) (T.ret (List.take ((W ((↑(List.length x.2.1) : Int).tdiv (2 : Int))).toNat - Int.toNat (0 : Int)) (List.drop ((0 : Nat) + Int.toNat (0 : Int)) (y ++ List.drop (List.length x.2.1) (intsOf rfl x.2.1))), List.take ((↑(List.length x.2.1) : Int).toNat - (W ((↑(List.length x.2.1) : Int).tdiv (2 : Int))).toNat) (List.drop ((0 : Nat) + (W ((↑(List.length x.2.1) : Int).tdiv (2 : Int))).toNat) (y ++ List.drop (List.length x.2.1) (intsOf rfl x.2.1))))) T.fail) T.fail) T.fail
noncomputable def bvh_builder_median (x : ((List ((Option Nat × Option Nat × Option Nat) × Option Nat × Option Nat × Option Nat)) × (List (Option Nat × Option Nat × Option Nat)) × Bool × (List (((Option Nat × Option Nat × Option Nat) × Option Nat × Option Nat × Option Nat) × Int × Int × Int × Int)) × List (Int)) × (List (Int)) × Int) : Option ((List (Int)) × (List (Int))) := (bvh_builder_median.t x).run
noncomputable def bvh_builder_median.q : List AV → T AV := entry [(.ptr TBld), (.sl TI), TI] (outR [(.sl TI), (.sl TI)]) fun x => .opt (bvh_builder_median x) .ret
theorem bvh_builder_median.ok : FnOK Tryz.prog 115 bvh_builder_median.q :=
  entry_call (ps := [(.ptr TBld), (.sl TI), TI]) (rs := [(.sl TI), (.sl TI)]) (F := (dpT Tryz.prog (ext (ext Xs 168 bvh_builder_median_1.q) 170 bvh_builder_median_2.q) bvh_builder_median.deeps bvh_builder_median.tabl 100 8)) (D := (inL bvh_builder_median.deeps.D)) (S := tabS []) (t := bvh_builder_median.t) mixed (dpT_ok mixed (quiet_ext (quiet_ext Xok bvh_builder_median_1.ok) bvh_builder_median_2.ok) bvh_builder_median.deepsOk bvh_builder_median.tablOk 100 8).1 (dpT_ok mixed (quiet_ext (quiet_ext Xok bvh_builder_median_1.ok) bvh_builder_median_2.ok) bvh_builder_median.deepsOk bvh_builder_median.tablOk 100 8).2 Tryz.func115 (by kernel_rfl) (sok_fn trivial) (by kernel_rfl) (fun x => by kernel_rfl)
theorem bvh_builder_median.okF : FrOK Tryz.prog 115 bvh_builder_median.q :=
  entry_fresh (ps := [(.ptr TBld), (.sl TI), TI]) (rs := [(.sl TI), (.sl TI)]) (F := (dpT Tryz.prog (ext (ext Xs 168 bvh_builder_median_1.q) 170 bvh_builder_median_2.q) bvh_builder_median.deeps bvh_builder_median.tabl 100 8)) (D := (inL bvh_builder_median.deeps.D)) (S := tabS []) (t := bvh_builder_median.t) mixed (dpT_ok mixed (quiet_ext (quiet_ext Xok bvh_builder_median_1.ok) bvh_builder_median_2.ok) bvh_builder_median.deepsOk bvh_builder_median.tablOk 100 8).1 (dpT_ok mixed (quiet_ext (quiet_ext Xok bvh_builder_median_1.ok) bvh_builder_median_2.ok) bvh_builder_median.deepsOk bvh_builder_median.tablOk 100 8).2 Tryz.func115 (by kernel_rfl) (sok_fn trivial) (by kernel_rfl) (fun x => by kernel_rfl) entry_run
end Go.Proofs.Pen

namespace Go.Proofs.Pen
open Go Go.Proofs
noncomputable def bvh_builder_cheapest.deeps : Deeps := { D := [115, 63, 169], C := [], frz := false, S := fun _ _ => noS }
theorem bvh_builder_cheapest.deepsOk : LoopsOK Tryz.prog bvh_builder_cheapest.deeps.S := (loops_none _)
noncomputable def bvh_builder_cheapest.tabl : DTab := (tbExt tb 169 (frzD isOslA (sortE Tryz.prog 170 (.ptr (.clo 168 (.pair (.ptr (.ptr TBld)) (.ptr TI)))) fun x a b => bvh_builder_median_2 (a, b, x))))
theorem bvh_builder_cheapest.tablOk : TBOK Tryz.prog bvh_builder_cheapest.tabl := (tb_ext tbOk (frzD_ok (sortE_ok (ct := (.ptr (.clo 168 (.pair (.ptr (.ptr TBld)) (.ptr TI))))) (f := fun x a b => bvh_builder_median_2 (a, b, x)) (by kernel_rfl) sorts_fn bvh_builder_median_2.ok (fun x a b n h => by show (T.opt (bvh_builder_median_2 (a, b, x)) fun y => T.ret (AV.it .i64 y)).run = _; rw [tr_opt, h]; rfl))))
def bvh_builder_cheapest.L2 : List (Nat × Lay) := [(0, .val (.ptr TBld)), (1, .val (.sl TI)), (2, .val TI), (7, .box TBox), (10, .obx [.own TI, .own TI]), (11, .val .flt), (12, .val TI), (13, .obx [.own TI, .own TI]), (32, .val (.sl TI)), (33, .val TI), (34, .val TI)]
noncomputable def bvh_builder_cheapest.t2 (x : ((List ((Option Nat × Option Nat × Option Nat) × Option Nat × Option Nat × Option Nat)) × (List (Option Nat × Option Nat × Option Nat)) × Bool × (List (((Option Nat × Option Nat × Option Nat) × Option Nat × Option Nat × Option Nat) × Int × Int × Int × Int)) × List (Int)) × (List (Int)) × Int × ((Option Nat × Option Nat × Option Nat) × Option Nat × Option Nat × Option Nat) × (List Int × List Int × Unit) × (Option Nat) × Int × (List Int × List Int × Unit) × (List (Int)) × Int × Int × Unit) : T (Ex × ((List ((Option Nat × Option Nat × Option Nat) × Option Nat × Option Nat × Option Nat)) × (List (Option Nat × Option Nat × Option Nat)) × Bool × (List (((Option Nat × Option Nat × Option Nat) × Option Nat × Option Nat × Option Nat) × Int × Int × Int × Int)) × List (Int)) × (List (Int)) × Int × ((Option Nat × Option Nat × Option Nat) × Option Nat × Option Nat × Option Nat) × (List Int × List Int × Unit) × (Option Nat) × Int × (List Int × List Int × Unit) × (List (Int)) × Int × Int × Unit) := T.ite (decide (x.2.2.2.2.2.2.2.2.2.2.1 < x.2.2.2.2.2.2.2.2.2.1)) (T.opt (lget x.2.2.2.2.2.2.2.2.1 x.2.2.2.2.2.2.2.2.2.2.1) fun y => T.opt (bvh_builder_bin (x.1, y, x.2.2.1, x.2.2.2.1)) fun y_1 => T.ite (decide (y_1 ≥ x.2.2.2.2.2.2.1)) (T.ite ((1 : Int) == (↑(0 : Nat) : Int)) (T.ite (decide ((x.2.2.2.2.2.2.2.1.1.length + (1 : Nat)) * nat_lit 8 ≤ most)) (T.ite ((1 : Int) == (↑(0 : Nat) : Int)) (T.ret (Ex.normal, x.1, x.2.1, x.2.2.1, x.2.2.2.1, (List.take x.2.2.2.2.1.1.length x.2.2.2.2.1.1, List.take x.2.2.2.2.1.2.1.length x.2.2.2.2.1.2.1, ()), x.2.2.2.2.2.1, x.2.2.2.2.2.2.1, (List.take (x.2.2.2.2.2.2.2.1.1.length + (1 : Nat)) (List.take x.2.2.2.2.2.2.2.1.1.length x.2.2.2.2.2.2.2.1.1 ++ [y]), List.take x.2.2.2.2.2.2.2.1.2.1.length x.2.2.2.2.2.2.2.1.2.1, ()), x.2.2.2.2.2.2.2.2.1, x.2.2.2.2.2.2.2.2.2.1, W (x.2.2.2.2.2.2.2.2.2.2.1 + (1 : Int)), ())) (T.ite ((1 : Int) == (↑((0 : Nat) + (1 : Nat)) : Int)) T.fail T.fail)) T.fail) (T.ite ((1 : Int) == (↑((0 : Nat) + (1 : Nat)) : Int)) (T.ite (decide ((x.2.2.2.2.2.2.2.1.2.1.length + (1 : Nat)) * nat_lit 8 ≤ most)) (T.ite ((1 : Int) == (↑(0 : Nat) : Int)) T.fail (T.ite ((1 : Int) == (↑((0 : Nat) + (1 : Nat)) : Int)) (T.ret (Ex.normal, x.1, x.2.1, x.2.2.1, x.2.2.2.1, (List.take x.2.2.2.2.1.1.length x.2.2.2.2.1.1, List.take x.2.2.2.2.1.2.1.length x.2.2.2.2.1.2.1, ()), x.2.2.2.2.2.1, x.2.2.2.2.2.2.1, (List.take x.2.2.2.2.2.2.2.1.1.length x.2.2.2.2.2.2.2.1.1, List.take (x.2.2.2.2.2.2.2.1.2.1.length + (1 : Nat)) (List.take x.2.2.2.2.2.2.2.1.2.1.length x.2.2.2.2.2.2.2.1.2.1 ++ [y]), ()), x.2.2.2.2.2.2.2.2.1, x.2.2.2.2.2.2.2.2.2.1, W (x.2.2.2.2.2.2.2.2.2.2.1 + (1 : Int)), ())) T.fail)) T.fail) T.fail)) (T.ite ((0 : Int) == (↑(0 : Nat) : Int)) (T.ite (decide ((x.2.2.2.2.2.2.2.1.1.length + (1 : Nat)) * nat_lit 8 ≤ most)) (T.ite ((0 : Int) == (↑(0 : Nat) : Int)) (T.ret (Ex.normal, x.1, x.2.1, x.2.2.1, x.2.2.2.1, (List.take x.2.2.2.2.1.1.length x.2.2.2.2.1.1, List.take x.2.2.2.2.1.2.1.length x.2.2.2.2.1.2.1, ()), x.2.2.2.2.2.1, x.2.2.2.2.2.2.1, (List.take (x.2.2.2.2.2.2.2.1.1.length + (1 : Nat)) (List.take x.2.2.2.2.2.2.2.1.1.length x.2.2.2.2.2.2.2.1.1 ++ [y]), List.take x.2.2.2.2.2.2.2.1.2.1.length x.2.2.2.2.2.2.2.1.2.1, ()), x.2.2.2.2.2.2.2.2.1, x.2.2.2.2.2.2.2.2.2.1, W (x.2.2.2.2.2.2.2.2.2.2.1 + (1 : Int)), ())) (T.ite ((0 : Int) == (↑((0 : Nat) + (1 : Nat)) : Int)) T.fail T.fail)) T.fail) (T.ite ((0 : Int) == (↑((0 : Nat) + (1 : Nat)) : Int)) (T.ite (decide ((x.2.2.2.2.2.2.2.1.2.1.length + (1 : Nat)) * nat_lit 8 ≤ most)) (T.ite ((0 : Int) == (↑(0 : Nat) : Int)) T.fail (T.ite ((0 : Int) == (↑((0 : Nat) + (1 : Nat)) : Int)) (T.ret (Ex.normal, x.1, x.2.1, x.2.2.1, x.2.2.2.1, (List.take x.2.2.2.2.1.1.length x.2.2.2.2.1.1, List.take x.2.2.2.2.1.2.1.length x.2.2.2.2.1.2.1, ()), x.2.2.2.2.2.1, x.2.2.2.2.2.2.1, (List.take x.2.2.2.2.2.2.2.1.1.length x.2.2.2.2.2.2.2.1.1, List.take (x.2.2.2.2.2.2.2.1.2.1.length + (1 : Nat)) (List.take x.2.2.2.2.2.2.2.1.2.1.length x.2.2.2.2.2.2.2.1.2.1 ++ [y]), ()), x.2.2.2.2.2.2.2.2.1, x.2.2.2.2.2.2.2.2.2.1, W (x.2.2.2.2.2.2.2.2.2.2.1 + (1 : Int)), ())) T.fail)) T.fail) T.fail))) (T.ret (Ex.exit (2 : Nat), x.1, x.2.1, x.2.2.1, x.2.2.2.1, (List.take x.2.2.2.2.1.1.length x.2.2.2.2.1.1, List.take x.2.2.2.2.1.2.1.length x.2.2.2.2.1.2.1, ()), x.2.2.2.2.2.1, x.2.2.2.2.2.2.1, (List.take x.2.2.2.2.2.2.2.1.1.length x.2.2.2.2.2.2.2.1.1, List.take x.2.2.2.2.2.2.2.1.2.1.length x.2.2.2.2.2.2.2.1.2.1, ()), x.2.2.2.2.2.2.2.2.1, x.2.2.2.2.2.2.2.2.2.1, x.2.2.2.2.2.2.2.2.2.2.1, ()))
noncomputable def bvh_builder_cheapest.l2 (x : ((List ((Option Nat × Option Nat × Option Nat) × Option Nat × Option Nat × Option Nat)) × (List (Option Nat × Option Nat × Option Nat)) × Bool × (List (((Option Nat × Option Nat × Option Nat) × Option Nat × Option Nat × Option Nat) × Int × Int × Int × Int)) × List (Int)) × (List (Int)) × Int × ((Option Nat × Option Nat × Option Nat) × Option Nat × Option Nat × Option Nat) × (List Int × List Int × Unit) × (Option Nat) × Int × (List Int × List Int × Unit) × (List (Int)) × Int × Int × Unit) : Option (Ex × ((List ((Option Nat × Option Nat × Option Nat) × Option Nat × Option Nat × Option Nat)) × (List (Option Nat × Option Nat × Option Nat)) × Bool × (List (((Option Nat × Option Nat × Option Nat) × Option Nat × Option Nat × Option Nat) × Int × Int × Int × Int)) × List (Int)) × (List (Int)) × Int × ((Option Nat × Option Nat × Option Nat) × Option Nat × Option Nat × Option Nat) × (List Int × List Int × Unit) × (Option Nat) × Int × (List Int × List Int × Unit) × (List (Int)) × Int × Int × Unit) := (iterT bvh_builder_cheapest.t2 rounds x).run
theorem bvh_builder_cheapest.k2 : bodies 2 (lp Tryz.f114 [0]) = [.loop (loopIn 2 (lp Tryz.f114 [0]))] ∧ WP Tryz.prog 0 (.block 2 (.loop (loopIn 2 (lp Tryz.f114 [0])))) (loopS bvh_builder_cheapest.L2 95 2 [.exit 2] bvh_builder_cheapest.l2) :=
  loop_tree (L := bvh_builder_cheapest.L2) (F := (dpT Tryz.prog (ext (ext (ext (ext (ext (ext (ext Xs 105 vec_Part.q) 166 bvh_builder_bin.q) 167 bvh_builder_cost.q) 115 bvh_builder_median.q) 170 bvh_builder_median_2.q) 151 vec_Sub_1.q) 168 bvh_builder_median_1.q) bvh_builder_cheapest.deeps bvh_builder_cheapest.tabl 100 8)) (D := (inL bvh_builder_cheapest.deeps.D)) (tab := []) (t := bvh_builder_cheapest.t2) mixed (dpT_ok mixed (quiet_ext (quiet_ext (quiet_ext (quiet_ext (quiet_ext (quiet_ext (quiet_ext Xok vec_Part.ok) bvh_builder_bin.ok) bvh_builder_cost.ok) bvh_builder_median.ok) bvh_builder_median_2.ok) vec_Sub_1.ok) bvh_builder_median_1.ok) bvh_builder_cheapest.deepsOk bvh_builder_cheapest.tablOk 100 8).1 (dpT_ok mixed (quiet_ext (quiet_ext (quiet_ext (quiet_ext (quiet_ext (quiet_ext (quiet_ext Xok vec_Part.ok) bvh_builder_bin.ok) bvh_builder_cost.ok) bvh_builder_median.ok) bvh_builder_median_2.ok) vec_Sub_1.ok) bvh_builder_median_1.ok) bvh_builder_cheapest.deepsOk bvh_builder_cheapest.tablOk 100 8).2 (fun _ => rfl) (by kernel_rfl) (by kernel_rfl) trivial (fun x => by kernel_rfl)
def bvh_builder_cheapest.L0 : List (Nat × Lay) := [(0, .val (.ptr TBld)), (1, .val (.sl TI)), (2, .val TI), (7, .box TBox), (10, .obx [.own TI, .own TI]), (11, .val .flt), (12, .val TI)]
noncomputable def bvh_builder_cheapest.t0 (x : ((List ((Option Nat × Option Nat × Option Nat) × Option Nat × Option Nat × Option Nat)) × (List (Option Nat × Option Nat × Option Nat)) × Bool × (List (((Option Nat × Option Nat × Option Nat) × Option Nat × Option Nat × Option Nat) × Int × Int × Int × Int)) × List (Int)) × (List (Int)) × Int × ((Option Nat × Option Nat × Option Nat) × Option Nat × Option Nat × Option Nat) × (List Int × List Int × Unit) × (Option Nat) × Int × Unit) : T (Ex × ((List ((Option Nat × Option Nat × Option Nat) × Option Nat × Option Nat × Option Nat)) × (List (Option Nat × Option Nat × Option Nat)) × Bool × (List (((Option Nat × Option Nat × Option Nat) × Option Nat × Option Nat × Option Nat) × Int × Int × Int × Int)) × List (Int)) × (List (Int)) × Int × ((Option Nat × Option Nat × Option Nat) × Option Nat × Option Nat × Option Nat) × (List Int × List Int × Unit) × (Option Nat) × Int × Unit) := T.ite (decide (x.2.2.2.2.2.2.1 < (8 : Int))) (T.opt (vec_Part (x.2.2.2.1.2, x.2.2.1)) fun y => T.opt (vec_Part (x.2.2.2.1.1, x.2.2.1)) fun y_1 => T.ite (!ford y y_1 == some Ordering.gt) (T.ret (Ex.exit (0 : Nat), x.1, x.2.1, x.2.2.1, x.2.2.2.1, (List.take x.2.2.2.2.1.1.length x.2.2.2.2.1.1, List.take x.2.2.2.2.1.2.1.length x.2.2.2.2.1.2.1, ()), x.2.2.2.2.2.1, x.2.2.2.2.2.2.1, ())) (T.opt (bvh_builder_cheapest.l2 (x.1, x.2.1, x.2.2.1, x.2.2.2.1, (List.take x.2.2.2.2.1.1.length x.2.2.2.2.1.1, List.take x.2.2.2.2.1.2.1.length x.2.2.2.2.1.2.1, ()), x.2.2.2.2.2.1, x.2.2.2.2.2.2.1, ([], [], ()), x.2.1, (↑(List.length x.2.1) : Int), (0 : Int), ())) fun y => T.ite (exEq y.1 (Ex.exit (2 : Nat))) (T.ite ((↑y.2.2.2.2.2.2.2.2.1.1.length : Int) == (0 : Int)) (T.ret (Ex.normal, y.2.1, y.2.2.1, y.2.2.2.1, y.2.2.2.2.1, (List.take y.2.2.2.2.2.1.1.length y.2.2.2.2.2.1.1, List.take y.2.2.2.2.2.1.2.1.length y.2.2.2.2.2.1.2.1, ()), y.2.2.2.2.2.2.1, W (y.2.2.2.2.2.2.2.1 + (1 : Int)), ())) (T.ite ((↑y.2.2.2.2.2.2.2.2.1.2.1.length : Int) == (0 : Int)) (T.ret (Ex.normal, y.2.1, y.2.2.1, y.2.2.2.1, y.2.2.2.2.1, (List.take y.2.2.2.2.2.1.1.length y.2.2.2.2.2.1.1, List.take y.2.2.2.2.2.1.2.1.length y.2.2.2.2.2.1.2.1, ()), y.2.2.2.2.2.2.1, W (y.2.2.2.2.2.2.2.1 + (1 : Int)), ())) (T.opt (bvh_builder_cost (y.2.1, List.take y.2.2.2.2.2.2.2.2.1.1.length y.2.2.2.2.2.2.2.2.1.1, List.take y.2.2.2.2.2.2.2.2.1.2.1.length y.2.2.2.2.2.2.2.2.1.2.1)) fun y_2 => T.ite ((↑y.2.2.2.2.2.1.1.length : Int) == (0 : Int) || ford y_2 y.2.2.2.2.2.2.1 == some Ordering.lt) (T.ret (Ex.normal, y.2.1, y.2.2.1, y.2.2.2.1, y.2.2.2.2.1, (List.take y.2.2.2.2.2.2.2.2.1.1.length y.2.2.2.2.2.2.2.2.1.1, List.take y.2.2.2.2.2.2.2.2.1.2.1.length y.2.2.2.2.2.2.2.2.1.2.1, ()), y_2, W (y.2.2.2.2.2.2.2.1 + (1 : Int)), ())) (T.ret (Ex.normal, y.2.1, y.2.2.1, y.2.2.2.1, y.2.2.2.2.1, (List.take y.2.2.2.2.2.1.1.length y.2.2.2.2.2.1.1, List.take y.2.2.2.2.2.1.2.1.length y.2.2.2.2.2.1.2.1, ()), y.2.2.2.2.2.2.1, W (y.2.2.2.2.2.2.2.1 + (1 : Int)), ()))))) T.fail)) (T.ret (Ex.exit (0 : Nat), x.1, x.2.1, x.2.2.1, x.2.2.2.1, (List.take x.2.2.2.2.1.1.length x.2.2.2.2.1.1, List.take x.2.2.2.2.1.2.1.length x.2.2.2.2.1.2.1, ()), x.2.2.2.2.2.1, x.2.2.2.2.2.2.1, ()))
noncomputable def bvh_builder_cheapest.l0 (x : ((List ((Option Nat × Option Nat × Option Nat) × Option Nat × Option Nat × Option Nat)) × (List (Option Nat × Option Nat × Option Nat)) × Bool × (List (((Option Nat × Option Nat × Option Nat) × Option Nat × Option Nat × Option Nat) × Int × Int × Int × Int)) × List (Int)) × (List (Int)) × Int × ((Option Nat × Option Nat × Option Nat) × Option Nat × Option Nat × Option Nat) × (List Int × List Int × Unit) × (Option Nat) × Int × Unit) : Option (Ex × ((List ((Option Nat × Option Nat × Option Nat) × Option Nat × Option Nat × Option Nat)) × (List (Option Nat × Option Nat × Option Nat)) × Bool × (List (((Option Nat × Option Nat × Option Nat) × Option Nat × Option Nat × Option Nat) × Int × Int × Int × Int)) × List (Int)) × (List (Int)) × Int × ((Option Nat × Option Nat × Option Nat) × Option Nat × Option Nat × Option Nat) × (List Int × List Int × Unit) × (Option Nat) × Int × Unit) := (iterT bvh_builder_cheapest.t0 rounds x).run
theorem bvh_builder_cheapest.k0 : bodies 0 (lp Tryz.f114 []) = [.loop (loopIn 0 (lp Tryz.f114 []))] ∧ WP Tryz.prog 0 (.block 0 (.loop (loopIn 0 (lp Tryz.f114 [])))) (loopS bvh_builder_cheapest.L0 95 0 [.exit 0] bvh_builder_cheapest.l0) :=
  loop_tree (L := bvh_builder_cheapest.L0) (F := (dpT Tryz.prog (ext (ext (ext (ext (ext (ext (ext Xs 105 vec_Part.q) 166 bvh_builder_bin.q) 167 bvh_builder_cost.q) 115 bvh_builder_median.q) 170 bvh_builder_median_2.q) 151 vec_Sub_1.q) 168 bvh_builder_median_1.q) bvh_builder_cheapest.deeps bvh_builder_cheapest.tabl 100 8)) (D := (inL bvh_builder_cheapest.deeps.D)) (tab := [(2, loopS bvh_builder_cheapest.L2 95 2 [.exit 2] bvh_builder_cheapest.l2)]) (t := bvh_builder_cheapest.t0) mixed (dpT_ok mixed (quiet_ext (quiet_ext (quiet_ext (quiet_ext (quiet_ext (quiet_ext (quiet_ext Xok vec_Part.ok) bvh_builder_bin.ok) bvh_builder_cost.ok) bvh_builder_median.ok) bvh_builder_median_2.ok) vec_Sub_1.ok) bvh_builder_median_1.ok) bvh_builder_cheapest.deepsOk bvh_builder_cheapest.tablOk 100 8).1 (dpT_ok mixed (quiet_ext (quiet_ext (quiet_ext (quiet_ext (quiet_ext (quiet_ext (quiet_ext Xok vec_Part.ok) bvh_builder_bin.ok) bvh_builder_cost.ok) bvh_builder_median.ok) bvh_builder_median_2.ok) vec_Sub_1.ok) bvh_builder_median_1.ok) bvh_builder_cheapest.deepsOk bvh_builder_cheapest.tablOk 100 8).2 (fun _ => rfl) (by kernel_rfl) (by kernel_rfl) ⟨bvh_builder_cheapest.k2, trivial⟩ (fun x => by kernel_rfl)
noncomputable def bvh_builder_cheapest.t (x : ((List ((Option Nat × Option Nat × Option Nat) × Option Nat × Option Nat × Option Nat)) × (List (Option Nat × Option Nat × Option Nat)) × Bool × (List (((Option Nat × Option Nat × Option Nat) × Option Nat × Option Nat × Option Nat) × Int × Int × Int × Int)) × List (Int)) × (List (Int)) × Int × ((Option Nat × Option Nat × Option Nat) × Option Nat × Option Nat × Option Nat)) : T ((List (Int)) × (List (Int))) := T.opt (bvh_builder_cheapest.l0 (x.1, x.2.1, x.2.2.1, x.2.2.2, ([], [], ()), some (0 : Nat), (1 : Int), ())) fun y => T.ite (exEq y.1 (Ex.exit (0 : Nat))) (T.ite ((↑y.2.2.2.2.2.1.1.length : Int) == (0 : Int)) (T.ite (decide (List.length y.2.2.1 * (8 : Nat) ≤ most)) (T.opt (sortO (fun a b => bvh_builder_median_2 (a, b, y.2.1, y.2.2.2.1)) (List.take (List.length y.2.2.1) (intsOf rfl y.2.2.1))) fun y_1 => T.ite (decide ((0 : Int) ≤ (0 : Int)) && decide ((0 : Int) ≤ W ((↑(List.length y.2.2.1) : Int).tdiv (2 : Int))) && decide (W ((↑(List.length y.2.2.1) : Int).tdiv (2 : Int)) ≤ (↑(List.length y.2.2.1) : Int))) (T.ite (decide ((0 : Int) ≤ W ((↑(List.length y.2.2.1) : Int).tdiv (2 : Int))) && decide (W ((↑(List.length y.2.2.1) : Int).tdiv (2 : Int)) ≤ (↑(List.length y.2.2.1) : Int)) && decide ((↑(List.length y.2.2.1) : Int) ≤ (↑(List.length y.2.2.1) : Int))) (T.ret (List.take ((W ((↑(List.length y.2.2.1) : Int).tdiv (2 : Int))).toNat - Int.toNat (0 : Int)) (List.drop ((0 : Nat) + Int.toNat (0 : Int)) (y_1 ++ List.drop (List.length y.2.2.1) (intsOf rfl y.2.2.1))), List.take ((↑(List.length y.2.2.1) : Int).toNat - (W ((↑(List.length y.2.2.1) : Int).tdiv (2 : Int))).toNat) (List.drop ((0 : Nat) + (W ((↑(List.length y.2.2.1) : Int).tdiv (2 : Int))).toNat) (y_1 ++ List.drop (List.length y.2.2.1) (intsOf rfl y.2.2.1))))) T.fail) T.fail) T.fail) (T.ret (List.take y.2.2.2.2.2.1.1.length y.2.2.2.2.2.1.1, List.take y.2.2.2.2.2.1.2.1.length y.2.2.2.2.2.1.2.1))) T.fail
noncomputable def bvh_builder_cheapest (x : ((List ((Option Nat × Option Nat × Option Nat) × Option Nat × Option Nat × Option Nat)) × (List (Option Nat × Option Nat × Option Nat)) × Bool × (List (((Option Nat × Option Nat × Option Nat) × Option Nat × Option Nat × Option Nat) × Int × Int × Int × Int)) × List (Int)) × (List (Int)) × Int × ((Option Nat × Option Nat × Option Nat) × Option Nat × Option Nat × Option Nat)) : Option ((List (Int)) × (List (Int))) := (bvh_builder_cheapest.t x).run
noncomputable def bvh_builder_cheapest.q : List AV → T AV := entry [(.ptr TBld), (.sl TI), TI, TBox] (outR [(.sl TI), (.sl TI)]) fun x => .opt (bvh_builder_cheapest x) .ret
theorem bvh_builder_cheapest.okF : FrOK Tryz.prog 114 bvh_builder_cheapest.q :=
  entry_fresh (ps := [(.ptr TBld), (.sl TI), TI, TBox]) (rs := [(.sl TI), (.sl TI)]) (F := (dpT Tryz.prog (ext (ext (ext (ext (ext (ext (ext Xs 105 vec_Part.q) 166 bvh_builder_bin.q) 167 bvh_builder_cost.q) 115 bvh_builder_median.q) 170 bvh_builder_median_2.q) 151 vec_Sub_1.q) 168 bvh_builder_median_1.q) bvh_builder_cheapest.deeps bvh_builder_cheapest.tabl 100 8)) (D := (inL bvh_builder_cheapest.deeps.D)) (S := tabS [(0, loopS bvh_builder_cheapest.L0 95 0 [.exit 0] bvh_builder_cheapest.l0)]) (t := bvh_builder_cheapest.t) mixed (dpT_ok mixed (quiet_ext (quiet_ext (quiet_ext (quiet_ext (quiet_ext (quiet_ext (quiet_ext Xok vec_Part.ok) bvh_builder_bin.ok) bvh_builder_cost.ok) bvh_builder_median.ok) bvh_builder_median_2.ok) vec_Sub_1.ok) bvh_builder_median_1.ok) bvh_builder_cheapest.deepsOk bvh_builder_cheapest.tablOk 100 8).1 (dpT_ok mixed (quiet_ext (quiet_ext (quiet_ext (quiet_ext (quiet_ext (quiet_ext (quiet_ext Xok vec_Part.ok) bvh_builder_bin.ok) bvh_builder_cost.ok) bvh_builder_median.ok) bvh_builder_median_2.ok) vec_Sub_1.ok) bvh_builder_median_1.ok) bvh_builder_cheapest.deepsOk bvh_builder_cheapest.tablOk 100 8).2 Tryz.func114 (by kernel_rfl) (sok_fn ⟨bvh_builder_cheapest.k0, trivial⟩) (by kernel_rfl) (fun x => by kernel_rfl) entry_run
end Go.Proofs.Pen

namespace Go.Proofs.Pen
open Go Go.Proofs
def bvh_build.L : List (Nat × Lay) := [(9000, .oblk 0 [.own TBox, .own TV, .dat .bool, .pt 1]), (9001, .oblk 1 [.own TNode, .own TI]), (0, .rf 0 0), (1, .val (.sl TI))]
def bvh_build.L2 : List (Nat × Lay) := [(9000, .oblk 0 [.own TBox, .own TV, .dat .bool, .pt 1]), (9001, .oblk 1 [.own TNode, .own TI])]
def bvh_build.ids (args : List AV) (own : List Blk) : Option (List Nat) := match args with
  | [.ref ib 0, _] => match rowAt own ib with
    | .cells [_, _, _, .ref it 0] => some [ib, it]
    | _ => none
  | _ => none
abbrev bvh_build.Fun := ((List ((Option Nat × Option Nat × Option Nat) × Option Nat × Option Nat × Option Nat) × List (Option Nat × Option Nat × Option Nat) × Bool × Unit) × (List (((Option Nat × Option Nat × Option Nat) × Option Nat × Option Nat × Option Nat) × Int × Int × Int × Int) × List Int × Unit) × (List (Int)) × Unit) → Option (Int × ((List ((Option Nat × Option Nat × Option Nat) × Option Nat × Option Nat × Option Nat) × List (Option Nat × Option Nat × Option Nat) × Bool × Unit) × (List (((Option Nat × Option Nat × Option Nat) × Option Nat × Option Nat × Option Nat) × Int × Int × Int × Int) × List Int × Unit) × Unit))
noncomputable def bvh_build.ent (h : bvh_build.Fun) : List AV → List Blk → T (AV × List Blk) := frzD isRefA (layD 2 bvh_build.L bvh_build.L2 [TI] bvh_build.ids h)
noncomputable def bvh_build.tab (h : bvh_build.Fun) : DTab := tbExt (tbExt (tbExt (tbExt tb 114 (freshD bvh_builder_cheapest.q)) 115 (freshD bvh_builder_median.q)) 111 (frzD isOslA sortI)) 49 (bvh_build.ent h)
noncomputable def bvh_build.fns (h : bvh_build.Fun) : Fns := { quiet := (ext (ext (ext Xs 110 bvh_builder_around.q) 112 bvh_builder_middles.q) 113 box_Longest.q), deep := tabD (bvh_build.tab h) noDeep }
def bvh_build.isD (g : Nat) : Bool := inL [114, 115, 63, 111, 49] g
noncomputable def bvh_build.t (h : bvh_build.Fun) (x : (List ((Option Nat × Option Nat × Option Nat) × Option Nat × Option Nat × Option Nat) × List (Option Nat × Option Nat × Option Nat) × Bool × Unit) × (List (((Option Nat × Option Nat × Option Nat) × Option Nat × Option Nat × Option Nat) × Int × Int × Int × Int) × List Int × Unit) × (List (Int)) × Unit) : T (Int × (List ((Option Nat × Option Nat × Option Nat) × Option Nat × Option Nat × Option Nat) × List (Option Nat × Option Nat × Option Nat) × Bool × Unit) × (List (((Option Nat × Option Nat × Option Nat) × Option Nat × Option Nat × Option Nat) × Int × Int × Int × Int) × List Int × Unit) × Unit) := T.opt (bvh_builder_around ((List.take x.1.1.length x.1.1, List.take x.1.2.1.length x.1.2.1, x.1.2.2.1, List.take x.2.1.1.length x.2.1.1, List.take x.2.1.2.1.length x.2.1.2.1), x.2.2.1)) fun y => T.ite (decide ((x.2.1.1.length + (1 : Nat)) * nat_lit 80 ≤ most)) (T.ite (decide ((↑(List.length x.2.2.1) : Int) ≤ (4 : Int))) (T.ite (decide (List.length x.2.2.1 * (8 : Nat) ≤ most)) (T.ite (decide (List.length x.2.2.1 ≤ (1000000 : Nat))) (T.ite (decide ((x.2.1.2.1.length + (List.take (List.length x.2.2.1) (insS (fun a b => decide (a < b)) (List.take (List.length x.2.2.1) (intsOf rfl x.2.2.1)) ++ List.drop (List.length x.2.2.1) (intsOf rfl x.2.2.1))).length) * nat_lit 8 ≤ most)) (T.ite (decide ((0 : Int) ≤ (↑x.2.1.1.length : Int)) && decide ((↑x.2.1.1.length : Int) < (↑(x.2.1.1.length + (1 : Nat)) : Int))) (T.opt (List.take x.2.1.1.length x.2.1.1 ++ [(y, (0 : Int), (0 : Int), (0 : Int), (0 : Int))])[(0 : Nat) + (↑x.2.1.1.length : Int).toNat]? fun y_1 => T.ret ((↑x.2.1.1.length : Int), (List.take x.1.1.length x.1.1, List.take x.1.2.1.length x.1.2.1, x.1.2.2.1, ()), (List.take (x.2.1.1.length + (1 : Nat)) ((List.take x.2.1.1.length x.2.1.1 ++ [(y, (0 : Int), (0 : Int), (0 : Int), (0 : Int))]).set ((0 : Nat) + (↑x.2.1.1.length : Int).toNat) (y, (0 : Int), (0 : Int), (↑x.2.1.2.1.length : Int), (↑(x.2.1.2.1.length + (List.take (List.length x.2.2.1) (insS (fun a b => decide (a < b)) (List.take (List.length x.2.2.1) (intsOf rfl x.2.2.1)) ++ List.drop (List.length x.2.2.1) (intsOf rfl x.2.2.1))).length) : Int))), List.take (x.2.1.2.1.length + (List.take (List.length x.2.2.1) (insS (fun a b => decide (a < b)) (List.take (List.length x.2.2.1) (intsOf rfl x.2.2.1)) ++ List.drop (List.length x.2.2.1) (intsOf rfl x.2.2.1))).length) (List.take x.2.1.2.1.length x.2.1.2.1 ++ List.take (List.length x.2.2.1) (insS (fun a b => decide (a < b)) (List.take (List.length x.2.2.1) (intsOf rfl x.2.2.1)) ++ List.drop (List.length x.2.2.1) (intsOf rfl x.2.2.1))), ()), ())) T.fail) T.fail) T.fail) T.fail) (T.opt (bvh_builder_middles ((List.take x.1.1.length x.1.1, List.take x.1.2.1.length x.1.2.1, x.1.2.2.1, List.take (x.2.1.1.length + (1 : Nat)) (List.take x.2.1.1.length x.2.1.1 ++ [(y, (0 : Int), (0 : Int), (0 : Int), (0 : Int))]), List.take x.2.1.2.1.length x.2.1.2.1), x.2.2.1)) fun y_1 => T.opt (box_Longest y_1) fun y_2 => T.ite x.1.2.2.1 (T.opt (bvh_builder_cheapest ((List.take x.1.1.length x.1.1, List.take x.1.2.1.length x.1.2.1, x.1.2.2.1, List.take (x.2.1.1.length + (1 : Nat)) (List.take x.2.1.1.length x.2.1.1 ++ [(y, (0 : Int), (0 : Int), (0 : Int), (0 : Int))]), List.take x.2.1.2.1.length x.2.1.2.1), x.2.2.1, y_2, y_1)) fun y_3 => T.opt (h ((List.take x.1.1.length x.1.1, List.take x.1.2.1.length x.1.2.1, x.1.2.2.1, ()), (List.take (x.2.1.1.length + (1 : Nat)) (List.take x.2.1.1.length x.2.1.1 ++ [(y, (0 : Int), (0 : Int), (0 : Int), (0 : Int))]), List.take x.2.1.2.1.length x.2.1.2.1, ()), y_3.fst, ())) fun y_4 => T.opt (h ((List.take y_4.snd.fst.fst.length y_4.snd.fst.fst, List.take y_4.snd.fst.snd.fst.length y_4.snd.fst.snd.fst, y_4.snd.fst.snd.snd.fst, ()), (List.take y_4.snd.snd.fst.fst.length y_4.snd.snd.fst.fst, List.take y_4.snd.snd.fst.snd.fst.length y_4.snd.snd.fst.snd.fst, ()), y_3.snd, ())) fun y_5 => T.ite (decide ((0 : Int) ≤ (↑x.2.1.1.length : Int)) && decide ((↑x.2.1.1.length : Int) < (↑y_5.snd.snd.fst.fst.length : Int))) (T.opt y_5.snd.snd.fst.fst[(0 : Nat) + (↑x.2.1.1.length : Int).toNat]? fun y_6 => T.ret ((↑x.2.1.1.length : Int), (List.take y_5.snd.fst.fst.length y_5.snd.fst.fst, List.take y_5.snd.fst.snd.fst.length y_5.snd.fst.snd.fst, y_5.snd.fst.snd.snd.fst, ()), (List.take y_5.snd.snd.fst.fst.length (y_5.snd.snd.fst.fst.set ((0 : Nat) + (↑x.2.1.1.length : Int).toNat) (y, y_4.fst, y_5.fst, (0 : Int), (0 : Int))), List.take y_5.snd.snd.fst.snd.fst.length y_5.snd.snd.fst.snd.fst, ()), ())) T.fail) (T.opt (bvh_builder_median ((List.take x.1.1.length x.1.1, List.take x.1.2.1.length x.1.2.1, x.1.2.2.1, List.take (x.2.1.1.length + (1 : Nat)) (List.take x.2.1.1.length x.2.1.1 ++ [(y, (0 : Int), (0 : Int), (0 : Int), (0 : Int))]), List.take x.2.1.2.1.length x.2.1.2.1), x.2.2.1, y_2)) fun y_3 => T.opt (h ((List.take x.1.1.length x.1.1, List.take x.1.2.1.length x.1.2.1, x.1.2.2.1, ()), (List.take (x.2.1.1.length + (1 : Nat)) (List.take x.2.1.1.length x.2.1.1 ++ [(y, (0 : Int), (0 : Int), (0 : Int), (0 : Int))]), List.take x.2.1.2.1.length x.2.1.2.1, ()), y_3.fst, ())) fun y_4 => T.opt (h ((List.take y_4.snd.fst.fst.length y_4.snd.fst.fst, List.take y_4.snd.fst.snd.fst.length y_4.snd.fst.snd.fst, y_4.snd.fst.snd.snd.fst, ()), (List.take y_4.snd.snd.fst.fst.length y_4.snd.snd.fst.fst, List.take y_4.snd.snd.fst.snd.fst.length y_4.snd.snd.fst.snd.fst, ()), y_3.snd, ())) fun y_5 => T.ite (decide ((0 : Int) ≤ (↑x.2.1.1.length : Int)) && decide ((↑x.2.1.1.length : Int) < (↑y_5.snd.snd.fst.fst.length : Int))) (T.opt y_5.snd.snd.fst.fst[(0 : Nat) + (↑x.2.1.1.length : Int).toNat]? fun y_6 => T.ret ((↑x.2.1.1.length : Int), (List.take y_5.snd.fst.fst.length y_5.snd.fst.fst, List.take y_5.snd.fst.snd.fst.length y_5.snd.fst.snd.fst, y_5.snd.fst.snd.snd.fst, ()), (List.take y_5.snd.snd.fst.fst.length (y_5.snd.snd.fst.fst.set ((0 : Nat) + (↑x.2.1.1.length : Int).toNat) (y, y_4.fst, y_5.fst, (0 : Int), (0 : Int))), List.take y_5.snd.snd.fst.snd.fst.length y_5.snd.snd.fst.snd.fst, ()), ())) T.fail))) T.fail
noncomputable def bvh_build.h : Nat → bvh_build.Fun
  | 0, _ => none
  | d + 1, x => (bvh_build.t (bvh_build.h d) x).run
theorem bvh_build.step (h : bvh_build.Fun) (x : lden bvh_build.L) : bodyT Tryz.prog (bvh_build.fns h) bvh_build.isD noS Tryz.f49 bvh_build.L bvh_build.L2 2 [TI] x = bvh_build.t h x := by kernel_rfl
theorem bvh_build.none_ok : DentOK Tryz.prog 49 (bvh_build.ent fun _ => none) := frzD_ok fun args own v own' h => by
  exfalso
  unfold layD at h
  split at h
  · exact run_fail h
  · split at h
    · exact run_fail h
    · split at h
      · exact run_fail h
      · obtain ⟨_, h1, _⟩ := run_opt h; cases h1
theorem bvh_build.tabOk {h : bvh_build.Fun} (hh : DentOK Tryz.prog 49 (bvh_build.ent h)) : TBOK Tryz.prog (bvh_build.tab h) :=
  tb_ext (tb_ext (tb_ext (tb_ext tbOk (fresh_deep bvh_builder_cheapest.okF)) (fresh_deep bvh_builder_median.okF)) (frzD_ok (sortI_ok (by kernel_rfl) sorts_int))) hh
theorem bvh_build.next {h : bvh_build.Fun} (hh : DentOK Tryz.prog 49 (bvh_build.ent h)) : DentOK Tryz.prog 49 (bvh_build.ent fun x => (bvh_build.t h x).run) :=
  frzD_ok (layD_ok (F := bvh_build.fns h) (D := bvh_build.isD) (S := noS) mixed (quiet_ext (quiet_ext (quiet_ext Xok bvh_builder_around.ok) bvh_builder_middles.ok) box_Longest.ok) (tabD_ok (bvh_build.tabOk hh) (deep_none _)) Tryz.func49 (by kernel_rfl) (nt := 2) (by kernel_rfl) (by kernel_rfl) rfl rfl (fun n c _ => sok_none _ n c) (by kernel_rfl) (fun x => by kernel_rfl) (fun args own s0 hs => by
    unfold bvh_build.ids at hs
    split at hs
    · rfl
    · cases hs) (fun x y hy => by rw [bvh_build.step h x]; exact hy))
theorem bvh_build.ok : ∀ d, DentOK Tryz.prog 49 (bvh_build.ent (bvh_build.h d))
  | 0 => bvh_build.none_ok
  | d + 1 => bvh_build.next (bvh_build.ok d)
end Go.Proofs.Pen

namespace Go.Proofs.Pen
open Go Go.Proofs
def bvh_may.L2 : List (Nat × Lay) := [(2, .val .bool), (4, .box TV), (13, .val TTri), (14, .val TI), (17, .val TI)]
noncomputable def bvh_may.t2 (x : Bool × (Option Nat × Option Nat × Option Nat) × ((Option Nat × Option Nat × Option Nat) × (Option Nat × Option Nat × Option Nat) × Option Nat × Option Nat × Option Nat) × Int × Int × Unit) : T (Ex × Bool × (Option Nat × Option Nat × Option Nat) × ((Option Nat × Option Nat × Option Nat) × (Option Nat × Option Nat × Option Nat) × Option Nat × Option Nat × Option Nat) × Int × Int × Unit) := T.ite (decide (x.2.2.2.2.1 < (3 : Int))) (T.opt (vec_Part (x.2.1, x.2.2.2.2.1)) fun y => T.ite (!((ford y (some (13920626448202203136 : Nat)) == some Ordering.gt || ford y (some (13920626448202203136 : Nat)) == some Ordering.eq) && (ford y (some (4697254411347427328 : Nat)) == some Ordering.lt || ford y (some (4697254411347427328 : Nat)) == some Ordering.eq))) (T.ret (Ex.ret, false, x.2.1, x.2.2.1, x.2.2.2.1, x.2.2.2.2.1, ())) (T.ret (Ex.normal, x.1, x.2.1, x.2.2.1, x.2.2.2.1, W (x.2.2.2.2.1 + (1 : Int)), ()))) (T.ret (Ex.exit (2 : Nat), x.1, x.2.1, x.2.2.1, x.2.2.2.1, x.2.2.2.2.1, ()))
noncomputable def bvh_may.l2 (x : Bool × (Option Nat × Option Nat × Option Nat) × ((Option Nat × Option Nat × Option Nat) × (Option Nat × Option Nat × Option Nat) × Option Nat × Option Nat × Option Nat) × Int × Int × Unit) : Option (Ex × Bool × (Option Nat × Option Nat × Option Nat) × ((Option Nat × Option Nat × Option Nat) × (Option Nat × Option Nat × Option Nat) × Option Nat × Option Nat × Option Nat) × Int × Int × Unit) := (iterT bvh_may.t2 rounds x).run
theorem bvh_may.k2 : bodies 2 (lp Tryz.f46 [0]) = [.loop (loopIn 2 (lp Tryz.f46 [0]))] ∧ WP Tryz.prog 0 (.block 2 (.loop (loopIn 2 (lp Tryz.f46 [0])))) (loopS bvh_may.L2 32 2 [.exit 2, .ret] bvh_may.l2) :=
  loop_tree (L := bvh_may.L2) (F := ({ quiet := (ext Xs 105 vec_Part.q), deep := noDeep } : Fns)) (D := D0) (tab := []) (t := bvh_may.t2) mixed (quiet_ext Xok vec_Part.ok) (deep_none _) (fun _ => rfl) (by kernel_rfl) (by kernel_rfl) trivial (fun x => by kernel_rfl)
def bvh_may.L0 : List (Nat × Lay) := [(2, .val .bool), (13, .val TTri), (14, .val TI)]
noncomputable def bvh_may.t0 (x : Bool × ((Option Nat × Option Nat × Option Nat) × (Option Nat × Option Nat × Option Nat) × Option Nat × Option Nat × Option Nat) × Int × Unit) : T (Ex × Bool × ((Option Nat × Option Nat × Option Nat) × (Option Nat × Option Nat × Option Nat) × Option Nat × Option Nat × Option Nat) × Int × Unit) := T.ite (decide (x.2.2.1 < (3 : Int))) (T.ite (x.2.2.1 == (↑(0 : Nat) : Int)) (T.opt (bvh_may.l2 (x.1, x.2.1.1, x.2.1, x.2.2.1, (0 : Int), ())) fun y => T.ite (exEq y.1 (Ex.exit (2 : Nat))) (T.ret (Ex.normal, y.2.1, y.2.2.2.1, W (y.2.2.2.2.1 + (1 : Int)), ())) (T.ite (exEq y.1 Ex.ret) (T.ret (Ex.ret, y.2.1, y.2.2.2.1, y.2.2.2.2.1, ())) T.fail)) (T.ite (x.2.2.1 == (↑((0 : Nat) + (1 : Nat)) : Int)) (T.opt (bvh_may.l2 (x.1, x.2.1.2.1, x.2.1, x.2.2.1, (0 : Int), ())) fun y => T.ite (exEq y.1 (Ex.exit (2 : Nat))) (T.ret (Ex.normal, y.2.1, y.2.2.2.1, W (y.2.2.2.2.1 + (1 : Int)), ())) (T.ite (exEq y.1 Ex.ret) (T.ret (Ex.ret, y.2.1, y.2.2.2.1, y.2.2.2.2.1, ())) T.fail)) (T.ite (x.2.2.1 == (↑((0 : Nat) + (1 : Nat) + (1 : Nat)) : Int)) (T.opt (bvh_may.l2 (x.1, x.2.1.2.2, x.2.1, x.2.2.1, (0 : Int), ())) fun y => T.ite (exEq y.1 (Ex.exit (2 : Nat))) (T.ret (Ex.normal, y.2.1, y.2.2.2.1, W (y.2.2.2.2.1 + (1 : Int)), ())) (T.ite (exEq y.1 Ex.ret) (T.ret (Ex.ret, y.2.1, y.2.2.2.1, y.2.2.2.2.1, ())) T.fail)) T.fail))) (T.ret (Ex.exit (0 : Nat), x.1, x.2.1, x.2.2.1, ()))
noncomputable def bvh_may.l0 (x : Bool × ((Option Nat × Option Nat × Option Nat) × (Option Nat × Option Nat × Option Nat) × Option Nat × Option Nat × Option Nat) × Int × Unit) : Option (Ex × Bool × ((Option Nat × Option Nat × Option Nat) × (Option Nat × Option Nat × Option Nat) × Option Nat × Option Nat × Option Nat) × Int × Unit) := (iterT bvh_may.t0 rounds x).run
theorem bvh_may.k0 : bodies 0 (lp Tryz.f46 []) = [.loop (loopIn 0 (lp Tryz.f46 []))] ∧ WP Tryz.prog 0 (.block 0 (.loop (loopIn 0 (lp Tryz.f46 [])))) (loopS bvh_may.L0 32 0 [.exit 0, .ret] bvh_may.l0) :=
  loop_tree (L := bvh_may.L0) (F := ({ quiet := (ext Xs 105 vec_Part.q), deep := noDeep } : Fns)) (D := D0) (tab := [(2, loopS bvh_may.L2 32 2 [.exit 2, .ret] bvh_may.l2)]) (t := bvh_may.t0) mixed (quiet_ext Xok vec_Part.ok) (deep_none _) (fun _ => rfl) (by kernel_rfl) (by kernel_rfl) ⟨bvh_may.k2, trivial⟩ (fun x => by kernel_rfl)
noncomputable def bvh_may.t (x : ((Option Nat × Option Nat × Option Nat) × (Option Nat × Option Nat × Option Nat) × Option Nat × Option Nat × Option Nat)) : T (Bool) := T.opt (bvh_may.l0 (false, x, (0 : Int), ())) fun y => T.ite (exEq y.1 (Ex.exit (0 : Nat))) (T.ret true) (T.ite (exEq y.1 Ex.ret) (T.ret y.2.1) T.fail)
noncomputable def bvh_may (x : ((Option Nat × Option Nat × Option Nat) × (Option Nat × Option Nat × Option Nat) × Option Nat × Option Nat × Option Nat)) : Option (Bool) := (bvh_may.t x).run
noncomputable def bvh_may.q : List AV → T AV := entry [TTri] (outR [.bool]) fun x => .opt (bvh_may x) .ret
theorem bvh_may.ok : FnOK Tryz.prog 46 bvh_may.q :=
  entry_call (ps := [TTri]) (rs := [.bool]) (F := ({ quiet := (ext Xs 105 vec_Part.q), deep := noDeep } : Fns)) (D := D0) (S := tabS [(0, loopS bvh_may.L0 32 0 [.exit 0, .ret] bvh_may.l0)]) (t := bvh_may.t) mixed (quiet_ext Xok vec_Part.ok) (deep_none _) Tryz.func46 (by kernel_rfl) (sok_fn ⟨bvh_may.k0, trivial⟩) (by kernel_rfl) (fun x => by kernel_rfl)
end Go.Proofs.Pen

namespace Go.Proofs.Pen
open Go Go.Proofs
noncomputable def box_Of.t (x : ((Option Nat × Option Nat × Option Nat) × (Option Nat × Option Nat × Option Nat) × Option Nat × Option Nat × Option Nat)) : T (((Option Nat × Option Nat × Option Nat) × Option Nat × Option Nat × Option Nat)) := T.opt (box_Empty ()) fun y => T.opt (box_Grow (y, x.1)) fun y => T.opt (box_Grow (y, x.2.1)) fun y => T.opt (box_Grow (y, x.2.2)) fun y => T.ret y
noncomputable def box_Of (x : ((Option Nat × Option Nat × Option Nat) × (Option Nat × Option Nat × Option Nat) × Option Nat × Option Nat × Option Nat)) : Option (((Option Nat × Option Nat × Option Nat) × Option Nat × Option Nat × Option Nat)) := (box_Of.t x).run
noncomputable def box_Of.q : List AV → T AV := entry [TTri] (outR [TBox]) fun x => .opt (box_Of x) .ret
theorem box_Of.ok : FnOK Tryz.prog 47 box_Of.q :=
  entry_call (ps := [TTri]) (rs := [TBox]) (F := ({ quiet := (ext (ext Xs 107 box_Empty.q) 106 box_Grow.q), deep := noDeep } : Fns)) (D := D0) (S := tabS []) (t := box_Of.t) mixed (quiet_ext (quiet_ext Xok box_Empty.ok) box_Grow.ok) (deep_none _) Tryz.func47 (by kernel_rfl) (sok_fn trivial) (by kernel_rfl) (fun x => by kernel_rfl)
end Go.Proofs.Pen

namespace Go.Proofs.Pen
open Go Go.Proofs
noncomputable def eachAdd.t (x : (Option Nat × Option Nat × Option Nat) × (Option Nat × Option Nat × Option Nat) × Unit) : T ((Option Nat × Option Nat × Option Nat)) := T.ret (fop BinOp.add x.1.1 x.2.1.1, fop BinOp.add x.1.2.1 x.2.1.2.1, fop BinOp.add x.1.2.2 x.2.1.2.2)
noncomputable def eachAdd.q : List AV → T AV := entry [TV, TV, (.clo 163 .unit)] (outR [TV]) eachAdd.t
theorem eachAdd.ok : FnOK Tryz.prog 150 eachAdd.q :=
  entry_in (ps := [TV, TV, (.clo 163 .unit)]) (rs := [TV]) (F := ({ quiet := (ext (ext (ext Xs 163 vec_Add_1.q) 151 vec_Sub_1.q) 192 vec_Mul_1.q), deep := noDeep } : Fns)) (D := D0) (S := tabS []) (t := eachAdd.t) mixed (quiet_ext (quiet_ext (quiet_ext Xok vec_Add_1.ok) vec_Sub_1.ok) vec_Mul_1.ok) (deep_none _) Tryz.func150 (by kernel_rfl) (sok_fn trivial) (by kernel_rfl) (fun x => by kernel_rfl)
end Go.Proofs.Pen

namespace Go.Proofs.Pen
open Go Go.Proofs
noncomputable def vec_Add.t (x : (Option Nat × Option Nat × Option Nat) × (Option Nat × Option Nat × Option Nat)) : T ((Option Nat × Option Nat × Option Nat)) := T.ret (fop BinOp.add x.1.1 x.2.1, fop BinOp.add x.1.2.1 x.2.2.1, fop BinOp.add x.1.2.2 x.2.2.2)
noncomputable def vec_Add (x : (Option Nat × Option Nat × Option Nat) × (Option Nat × Option Nat × Option Nat)) : Option ((Option Nat × Option Nat × Option Nat)) := (vec_Add.t x).run
noncomputable def vec_Add.q : List AV → T AV := entry [TV, TV] (outR [TV]) fun x => .opt (vec_Add x) .ret
theorem vec_Add.ok : FnOK Tryz.prog 109 vec_Add.q :=
  entry_call (ps := [TV, TV]) (rs := [TV]) (F := ({ quiet := (ext Xs 150 eachAdd.q), deep := noDeep } : Fns)) (D := D0) (S := tabS []) (t := vec_Add.t) mixed (quiet_ext Xok eachAdd.ok) (deep_none _) Tryz.func109 (by kernel_rfl) (sok_fn trivial) (by kernel_rfl) (fun x => by kernel_rfl)
end Go.Proofs.Pen

namespace Go.Proofs.Pen
open Go Go.Proofs
noncomputable def eachMul.t (x : (Option Nat × Option Nat × Option Nat) × (Option Nat × Option Nat × Option Nat) × Unit) : T ((Option Nat × Option Nat × Option Nat)) := T.ret (fop BinOp.mul x.1.1 x.2.1.1, fop BinOp.mul x.1.2.1 x.2.1.2.1, fop BinOp.mul x.1.2.2 x.2.1.2.2)
noncomputable def eachMul.q : List AV → T AV := entry [TV, TV, (.clo 192 .unit)] (outR [TV]) eachMul.t
theorem eachMul.ok : FnOK Tryz.prog 150 eachMul.q :=
  entry_in (ps := [TV, TV, (.clo 192 .unit)]) (rs := [TV]) (F := ({ quiet := (ext (ext (ext Xs 163 vec_Add_1.q) 151 vec_Sub_1.q) 192 vec_Mul_1.q), deep := noDeep } : Fns)) (D := D0) (S := tabS []) (t := eachMul.t) mixed (quiet_ext (quiet_ext (quiet_ext Xok vec_Add_1.ok) vec_Sub_1.ok) vec_Mul_1.ok) (deep_none _) Tryz.func150 (by kernel_rfl) (sok_fn trivial) (by kernel_rfl) (fun x => by kernel_rfl)
end Go.Proofs.Pen

namespace Go.Proofs.Pen
open Go Go.Proofs
noncomputable def vec_Mul.t (x : (Option Nat × Option Nat × Option Nat) × (Option Nat × Option Nat × Option Nat)) : T ((Option Nat × Option Nat × Option Nat)) := T.ret (fop BinOp.mul x.1.1 x.2.1, fop BinOp.mul x.1.2.1 x.2.2.1, fop BinOp.mul x.1.2.2 x.2.2.2)
noncomputable def vec_Mul.q : List AV → T AV := entry [TV, TV] (outR [TV]) vec_Mul.t
theorem vec_Mul.ok : FnOK Tryz.prog 152 vec_Mul.q :=
  entry_in (ps := [TV, TV]) (rs := [TV]) (F := ({ quiet := (ext Xs 150 eachMul.q), deep := noDeep } : Fns)) (D := D0) (S := tabS []) (t := vec_Mul.t) mixed (quiet_ext Xok eachMul.ok) (deep_none _) Tryz.func152 (by kernel_rfl) (sok_fn trivial) (by kernel_rfl) (fun x => by kernel_rfl)
end Go.Proofs.Pen

namespace Go.Proofs.Pen
open Go Go.Proofs
noncomputable def vec_Scale.t (x : (Option Nat × Option Nat × Option Nat) × (Option Nat)) : T ((Option Nat × Option Nat × Option Nat)) := T.ret (fop BinOp.mul x.1.1 x.2, fop BinOp.mul x.1.2.1 x.2, fop BinOp.mul x.1.2.2 x.2)
noncomputable def vec_Scale.q : List AV → T AV := entry [TV, .flt] (outR [TV]) vec_Scale.t
theorem vec_Scale.ok : FnOK Tryz.prog 108 vec_Scale.q :=
  entry_in (ps := [TV, .flt]) (rs := [TV]) (F := ({ quiet := (ext (ext Xs 152 vec_Mul.q) 192 vec_Mul_1.q), deep := noDeep } : Fns)) (D := D0) (S := tabS []) (t := vec_Scale.t) mixed (quiet_ext (quiet_ext Xok vec_Mul.ok) vec_Mul_1.ok) (deep_none _) Tryz.func108 (by kernel_rfl) (sok_fn trivial) (by kernel_rfl) (fun x => by kernel_rfl)
end Go.Proofs.Pen

namespace Go.Proofs.Pen
open Go Go.Proofs
noncomputable def box_Mid.t (x : ((Option Nat × Option Nat × Option Nat) × Option Nat × Option Nat × Option Nat)) : T ((Option Nat × Option Nat × Option Nat)) := T.opt (vec_Add x) fun y => T.ret (fop BinOp.mul y.1 (some (4602678819172646912 : Nat)), fop BinOp.mul y.2.1 (some (4602678819172646912 : Nat)), fop BinOp.mul y.2.2 (some (4602678819172646912 : Nat)))
noncomputable def box_Mid (x : ((Option Nat × Option Nat × Option Nat) × Option Nat × Option Nat × Option Nat)) : Option ((Option Nat × Option Nat × Option Nat)) := (box_Mid.t x).run
noncomputable def box_Mid.q : List AV → T AV := entry [TBox] (outR [TV]) fun x => .opt (box_Mid x) .ret
theorem box_Mid.ok : FnOK Tryz.prog 48 box_Mid.q :=
  entry_call (ps := [TBox]) (rs := [TV]) (F := ({ quiet := (ext (ext (ext (ext Xs 109 vec_Add.q) 108 vec_Scale.q) 163 vec_Add_1.q) 192 vec_Mul_1.q), deep := noDeep } : Fns)) (D := D0) (S := tabS []) (t := box_Mid.t) mixed (quiet_ext (quiet_ext (quiet_ext (quiet_ext Xok vec_Add.ok) vec_Scale.ok) vec_Add_1.ok) vec_Mul_1.ok) (deep_none _) Tryz.func48 (by kernel_rfl) (sok_fn trivial) (by kernel_rfl) (fun x => by kernel_rfl)
end Go.Proofs.Pen

namespace Go.Proofs.Pen
open Go Go.Proofs
noncomputable def bvh_New.deeps : Deeps := { D := [49], C := [], frz := false, S := fun _ _ => noS }
theorem bvh_New.deepsOk : LoopsOK Tryz.prog bvh_New.deeps.S := (loops_none _)
noncomputable def bvh_New.tabl : DTab := (tbExt tb 49 (bvh_build.ent (bvh_build.h 1000)))
theorem bvh_New.tablOk : TBOK Tryz.prog bvh_New.tabl := (tb_ext tbOk (bvh_build.ok 1000))
def bvh_New.L0 : List (Nat × Lay) := [(16, .obx [.own TNode, .own TI]), (4, .lit .nilp), (5, .val TI), (6, .obx [.own TBox, .own TV, .dat .bool, .pt 0]), (7, .row TI), (19, .val (.sl TTri)), (20, .val TI), (21, .val TI)]
noncomputable def bvh_New.t0 (x : (List (((Option Nat × Option Nat × Option Nat) × Option Nat × Option Nat × Option Nat) × Int × Int × Int × Int) × List Int × Unit) × Int × (List ((Option Nat × Option Nat × Option Nat) × Option Nat × Option Nat × Option Nat) × List (Option Nat × Option Nat × Option Nat) × Bool × Unit) × List Int × (List ((Option Nat × Option Nat × Option Nat) × (Option Nat × Option Nat × Option Nat) × Option Nat × Option Nat × Option Nat)) × Int × Int × Unit) : T (Ex × (List (((Option Nat × Option Nat × Option Nat) × Option Nat × Option Nat × Option Nat) × Int × Int × Int × Int) × List Int × Unit) × Int × (List ((Option Nat × Option Nat × Option Nat) × Option Nat × Option Nat × Option Nat) × List (Option Nat × Option Nat × Option Nat) × Bool × Unit) × List Int × (List ((Option Nat × Option Nat × Option Nat) × (Option Nat × Option Nat × Option Nat) × Option Nat × Option Nat × Option Nat)) × Int × Int × Unit) := T.ite (decide (x.2.2.2.2.2.2.1 < x.2.2.2.2.2.1)) (T.opt (lget x.2.2.2.2.1 x.2.2.2.2.2.2.1) fun y => T.opt (bvh_may y) fun y_1 => T.ite (!y_1) (T.ret (Ex.ret, (List.take x.1.1.length x.1.1, List.take x.1.2.1.length x.1.2.1, ()), (2 : Int), (List.take x.2.2.1.1.length x.2.2.1.1, List.take x.2.2.1.2.1.length x.2.2.1.2.1, x.2.2.1.2.2.1, ()), List.take x.2.2.2.1.length x.2.2.2.1, x.2.2.2.2.1, x.2.2.2.2.2.1, x.2.2.2.2.2.2.1, ())) (T.opt (box_Of y) fun y => T.ite (decide ((x.2.2.1.1.length + (1 : Nat)) * nat_lit 48 ≤ most)) (T.opt (box_Mid y) fun y_2 => T.ite (decide ((x.2.2.1.2.1.length + (1 : Nat)) * nat_lit 24 ≤ most)) (T.ite (decide ((x.2.2.2.1.length + (1 : Nat)) * nat_lit 8 ≤ most)) (T.ret (Ex.normal, (List.take x.1.1.length x.1.1, List.take x.1.2.1.length x.1.2.1, ()), x.2.1, (List.take (x.2.2.1.1.length + (1 : Nat)) (List.take x.2.2.1.1.length x.2.2.1.1 ++ [y]), List.take (x.2.2.1.2.1.length + (1 : Nat)) (List.take x.2.2.1.2.1.length x.2.2.1.2.1 ++ [y_2]), x.2.2.1.2.2.1, ()), List.take (x.2.2.2.1.length + (1 : Nat)) (List.take x.2.2.2.1.length x.2.2.2.1 ++ [x.2.2.2.2.2.2.1]), x.2.2.2.2.1, x.2.2.2.2.2.1, W (x.2.2.2.2.2.2.1 + (1 : Int)), ())) T.fail) T.fail) T.fail)) (T.ret (Ex.exit (0 : Nat), (List.take x.1.1.length x.1.1, List.take x.1.2.1.length x.1.2.1, ()), x.2.1, (List.take x.2.2.1.1.length x.2.2.1.1, List.take x.2.2.1.2.1.length x.2.2.1.2.1, x.2.2.1.2.2.1, ()), List.take x.2.2.2.1.length x.2.2.2.1, x.2.2.2.2.1, x.2.2.2.2.2.1, x.2.2.2.2.2.2.1, ()))
noncomputable def bvh_New.l0 (x : (List (((Option Nat × Option Nat × Option Nat) × Option Nat × Option Nat × Option Nat) × Int × Int × Int × Int) × List Int × Unit) × Int × (List ((Option Nat × Option Nat × Option Nat) × Option Nat × Option Nat × Option Nat) × List (Option Nat × Option Nat × Option Nat) × Bool × Unit) × List Int × (List ((Option Nat × Option Nat × Option Nat) × (Option Nat × Option Nat × Option Nat) × Option Nat × Option Nat × Option Nat)) × Int × Int × Unit) : Option (Ex × (List (((Option Nat × Option Nat × Option Nat) × Option Nat × Option Nat × Option Nat) × Int × Int × Int × Int) × List Int × Unit) × Int × (List ((Option Nat × Option Nat × Option Nat) × Option Nat × Option Nat × Option Nat) × List (Option Nat × Option Nat × Option Nat) × Bool × Unit) × List Int × (List ((Option Nat × Option Nat × Option Nat) × (Option Nat × Option Nat × Option Nat) × Option Nat × Option Nat × Option Nat)) × Int × Int × Unit) := (iterT bvh_New.t0 rounds x).run
theorem bvh_New.k0 : bodies 0 (lp Tryz.f8 []) = [.loop (loopIn 0 (lp Tryz.f8 []))] ∧ WP Tryz.prog 0 (.block 0 (.loop (loopIn 0 (lp Tryz.f8 [])))) (loopS bvh_New.L0 64 0 [.exit 0, .ret] bvh_New.l0) :=
  loop_tree (L := bvh_New.L0) (F := (dpT Tryz.prog (ext (ext (ext (ext (ext (ext Xs 46 bvh_may.q) 47 box_Of.q) 48 box_Mid.q) 151 vec_Sub_1.q) 163 vec_Add_1.q) 192 vec_Mul_1.q) bvh_New.deeps bvh_New.tabl 100 8)) (D := (inL bvh_New.deeps.D)) (tab := []) (t := bvh_New.t0) mixed (dpT_ok mixed (quiet_ext (quiet_ext (quiet_ext (quiet_ext (quiet_ext (quiet_ext Xok bvh_may.ok) box_Of.ok) box_Mid.ok) vec_Sub_1.ok) vec_Add_1.ok) vec_Mul_1.ok) bvh_New.deepsOk bvh_New.tablOk 100 8).1 (dpT_ok mixed (quiet_ext (quiet_ext (quiet_ext (quiet_ext (quiet_ext (quiet_ext Xok bvh_may.ok) box_Of.ok) box_Mid.ok) vec_Sub_1.ok) vec_Add_1.ok) vec_Mul_1.ok) bvh_New.deepsOk bvh_New.tablOk 100 8).2 (fun _ => rfl) (by kernel_rfl) (by kernel_rfl) trivial (fun x => by kernel_rfl)
noncomputable def bvh_New.t (x : (List ((Option Nat × Option Nat × Option Nat) × (Option Nat × Option Nat × Option Nat) × Option Nat × Option Nat × Option Nat)) × Bool) : T (Option ((List (((Option Nat × Option Nat × Option Nat) × Option Nat × Option Nat × Option Nat) × Int × Int × Int × Int)) × List (Int)) × Int) := T.ite (decide ((↑(List.length x.1) : Int) > (512 : Int))) (T.ret (none, (4 : Int))) (T.opt (bvh_New.l0 (([], [], ()), (0 : Int), ([], [], x.2, ()), [], x.1, (↑(List.length x.1) : Int), (0 : Int), ())) fun y => T.ite (exEq y.1 (Ex.exit (0 : Nat))) (T.opt (bvh_build.h (1000 : Nat) ((List.take y.2.2.2.1.1.length y.2.2.2.1.1, List.take y.2.2.2.1.2.1.length y.2.2.2.1.2.1, y.2.2.2.1.2.2.1, ()), (List.take y.2.1.1.length y.2.1.1, List.take y.2.1.2.1.length y.2.1.2.1, ()), List.take y.2.2.2.2.1.length y.2.2.2.2.1, ())) fun y => T.ret (some (List.take y.2.2.1.1.length y.2.2.1.1, List.take y.2.2.1.2.1.length y.2.2.1.2.1), (0 : Int))) (T.ite (exEq y.1 Ex.ret) (T.ret (none, y.2.2.1)) T.fail))
noncomputable def bvh_New (x : (List ((Option Nat × Option Nat × Option Nat) × (Option Nat × Option Nat × Option Nat) × Option Nat × Option Nat × Option Nat)) × Bool) : Option (Option ((List (((Option Nat × Option Nat × Option Nat) × Option Nat × Option Nat × Option Nat) × Int × Int × Int × Int)) × List (Int)) × Int) := (bvh_New.t x).run
noncomputable def bvh_New.q : List AV → T AV := entryNP [(.sl TTri), .bool] TTree .i64 bvh_New
theorem bvh_New.ok : FnOK Tryz.prog 8 bvh_New.q :=
  entry_np (ps := [(.sl TTri), .bool]) (tt := TTree) (kk := .i64) (F := (dpT Tryz.prog (ext (ext (ext (ext (ext (ext Xs 46 bvh_may.q) 47 box_Of.q) 48 box_Mid.q) 151 vec_Sub_1.q) 163 vec_Add_1.q) 192 vec_Mul_1.q) bvh_New.deeps bvh_New.tabl 100 8)) (D := (inL bvh_New.deeps.D)) (S := tabS [(0, loopS bvh_New.L0 64 0 [.exit 0, .ret] bvh_New.l0)]) (t := bvh_New.t) mixed (dpT_ok mixed (quiet_ext (quiet_ext (quiet_ext (quiet_ext (quiet_ext (quiet_ext Xok bvh_may.ok) box_Of.ok) box_Mid.ok) vec_Sub_1.ok) vec_Add_1.ok) vec_Mul_1.ok) bvh_New.deepsOk bvh_New.tablOk 100 8).1 (dpT_ok mixed (quiet_ext (quiet_ext (quiet_ext (quiet_ext (quiet_ext (quiet_ext Xok bvh_may.ok) box_Of.ok) box_Mid.ok) vec_Sub_1.ok) vec_Add_1.ok) vec_Mul_1.ok) bvh_New.deepsOk bvh_New.tablOk 100 8).2 Tryz.func8 (by kernel_rfl) (sok_fn ⟨bvh_New.k0, trivial⟩) (by kernel_rfl) (fun x => by kernel_rfl)
theorem bvh_New.okF : FrOK Tryz.prog 8 bvh_New.q :=
  entry_np_fresh (ps := [(.sl TTri), .bool]) (tt := TTree) (kk := .i64) (F := (dpT Tryz.prog (ext (ext (ext (ext (ext (ext Xs 46 bvh_may.q) 47 box_Of.q) 48 box_Mid.q) 151 vec_Sub_1.q) 163 vec_Add_1.q) 192 vec_Mul_1.q) bvh_New.deeps bvh_New.tabl 100 8)) (D := (inL bvh_New.deeps.D)) (S := tabS [(0, loopS bvh_New.L0 64 0 [.exit 0, .ret] bvh_New.l0)]) (t := bvh_New.t) mixed (dpT_ok mixed (quiet_ext (quiet_ext (quiet_ext (quiet_ext (quiet_ext (quiet_ext Xok bvh_may.ok) box_Of.ok) box_Mid.ok) vec_Sub_1.ok) vec_Add_1.ok) vec_Mul_1.ok) bvh_New.deepsOk bvh_New.tablOk 100 8).1 (dpT_ok mixed (quiet_ext (quiet_ext (quiet_ext (quiet_ext (quiet_ext (quiet_ext Xok bvh_may.ok) box_Of.ok) box_Mid.ok) vec_Sub_1.ok) vec_Add_1.ok) vec_Mul_1.ok) bvh_New.deepsOk bvh_New.tablOk 100 8).2 Tryz.func8 (by kernel_rfl) (sok_fn ⟨bvh_New.k0, trivial⟩) (by kernel_rfl) (fun x => by kernel_rfl)
end Go.Proofs.Pen

namespace Go.Proofs.Pen
open Go Go.Proofs
noncomputable def bvh_Tree_Nodes.deeps : Deeps := { D := [52], C := [], frz := false, S := fun _ _ => noS }
theorem bvh_Tree_Nodes.deepsOk : LoopsOK Tryz.prog bvh_Tree_Nodes.deeps.S := (loops_none _)
noncomputable def bvh_Tree_Nodes.t (x : ((List (((Option Nat × Option Nat × Option Nat) × Option Nat × Option Nat × Option Nat) × Int × Int × Int × Int)) × List (Int))) : T ((List (((Option Nat × Option Nat × Option Nat) × Option Nat × Option Nat × Option Nat) × Int × Int × Int × Int))) := T.ite (decide (List.length x.1 * (80 : Nat) ≤ most)) (T.ret (List.take (List.length x.1) x.1)) T.fail
noncomputable def bvh_Tree_Nodes (x : ((List (((Option Nat × Option Nat × Option Nat) × Option Nat × Option Nat × Option Nat) × Int × Int × Int × Int)) × List (Int))) : Option ((List (((Option Nat × Option Nat × Option Nat) × Option Nat × Option Nat × Option Nat) × Int × Int × Int × Int))) := (bvh_Tree_Nodes.t x).run
noncomputable def bvh_Tree_Nodes.q : List AV → T AV := entry [(.ptr TTree)] (outR [(.sl TNode)]) fun x => .opt (bvh_Tree_Nodes x) .ret
theorem bvh_Tree_Nodes.ok : FnOK Tryz.prog 12 bvh_Tree_Nodes.q :=
  entry_call (ps := [(.ptr TTree)]) (rs := [(.sl TNode)]) (F := (dpT Tryz.prog Xs bvh_Tree_Nodes.deeps tb 100 8)) (D := (inL bvh_Tree_Nodes.deeps.D)) (S := tabS []) (t := bvh_Tree_Nodes.t) mixed (dpT_ok mixed Xok bvh_Tree_Nodes.deepsOk tbOk 100 8).1 (dpT_ok mixed Xok bvh_Tree_Nodes.deepsOk tbOk 100 8).2 Tryz.func12 (by kernel_rfl) (sok_fn trivial) (by kernel_rfl) (fun x => by kernel_rfl)
end Go.Proofs.Pen

namespace Go.Proofs.Pen
open Go Go.Proofs
end Go.Proofs.Pen

namespace Go.Proofs.Pen
open Go Go.Proofs
noncomputable def bvh_Tree_Node.t (x : ((List (((Option Nat × Option Nat × Option Nat) × Option Nat × Option Nat × Option Nat) × Int × Int × Int × Int)) × List (Int)) × Int) : T ((((Option Nat × Option Nat × Option Nat) × Option Nat × Option Nat × Option Nat) × Int × Int × Int × Int) × Bool) := T.ite (decide (x.2 < (0 : Int))) (T.ret ((((some (0 : Nat), some (0 : Nat), some (0 : Nat)), some (0 : Nat), some (0 : Nat), some (0 : Nat)), (0 : Int), (0 : Int), (0 : Int), (0 : Int)), false)) (T.ite (decide (x.2 ≥ (↑(List.length x.1.1) : Int))) (T.ret ((((some (0 : Nat), some (0 : Nat), some (0 : Nat)), some (0 : Nat), some (0 : Nat), some (0 : Nat)), (0 : Int), (0 : Int), (0 : Int), (0 : Int)), false)) (T.opt (lget x.1.1 x.2) fun y => T.ret (y, true)))
noncomputable def bvh_Tree_Node (x : ((List (((Option Nat × Option Nat × Option Nat) × Option Nat × Option Nat × Option Nat) × Int × Int × Int × Int)) × List (Int)) × Int) : Option ((((Option Nat × Option Nat × Option Nat) × Option Nat × Option Nat × Option Nat) × Int × Int × Int × Int) × Bool) := (bvh_Tree_Node.t x).run
noncomputable def bvh_Tree_Node.q : List AV → T AV := entry [(.ptr TTree), TI] (outR [TNode, .bool]) fun x => .opt (bvh_Tree_Node x) .ret
theorem bvh_Tree_Node.ok : FnOK Tryz.prog 13 bvh_Tree_Node.q :=
  entry_call (ps := [(.ptr TTree), TI]) (rs := [TNode, .bool]) (F := ({ quiet := Xs, deep := noDeep } : Fns)) (D := D0) (S := tabS []) (t := bvh_Tree_Node.t) mixed Xok (deep_none _) Tryz.func13 (by kernel_rfl) (sok_fn trivial) (by kernel_rfl) (fun x => by kernel_rfl)
end Go.Proofs.Pen

namespace Go.Proofs.Pen
open Go Go.Proofs
abbrev bvh_Tree_deep.Fun := (((List (((Option Nat × Option Nat × Option Nat) × Option Nat × Option Nat × Option Nat) × Int × Int × Int × Int)) × List (Int)) × Int) → Option (Int)
noncomputable def bvh_Tree_deep.qh (h : bvh_Tree_deep.Fun) : List AV → T AV := entry [(.ptr TTree), TI] (outR [TI]) fun x => .opt (h x) .ret
noncomputable def bvh_Tree_deep.fns (h : bvh_Tree_deep.Fun) : Fns := { quiet := (ext (ext Xs 13 bvh_Tree_Node.q) 116 (bvh_Tree_deep.qh h)), deep := noDeep }
noncomputable def bvh_Tree_deep.t (h : bvh_Tree_deep.Fun) (x : ((List (((Option Nat × Option Nat × Option Nat) × Option Nat × Option Nat × Option Nat) × Int × Int × Int × Int)) × List (Int)) × Int) : T (Int) := T.opt (bvh_Tree_Node x) fun y => T.ite (!y.2) (T.ret (0 : Int)) (T.ite (y.1.2.1 == (0 : Int)) (T.ret (1 : Int)) (T.opt (h (x.1, y.1.2.1)) fun y_1 => T.opt (h (x.1, y.1.2.2.1)) fun y => T.ret (W ((1 : Int) + if y > y_1 then y else y_1))))
noncomputable def bvh_Tree_deep.h : Nat → bvh_Tree_deep.Fun
  | 0, _ => none
  | d + 1, x => (bvh_Tree_deep.t (bvh_Tree_deep.h d) x).run
theorem bvh_Tree_deep.all : ∀ d, FnOK Tryz.prog 116 (bvh_Tree_deep.qh (bvh_Tree_deep.h d))
  | 0 => fun args v h => by
    exfalso
    unfold bvh_Tree_deep.qh entry at h
    split at h
    · obtain ⟨_, h1, _⟩ := run_bind h
      obtain ⟨_, h2, _⟩ := run_opt h1
      cases h2
    · exact run_fail h
  | d + 1 => entry_call (ps := [(.ptr TTree), TI]) (rs := [TI]) (F := bvh_Tree_deep.fns (bvh_Tree_deep.h d)) (D := D0) (S := noS) (t := bvh_Tree_deep.t (bvh_Tree_deep.h d)) mixed (quiet_ext (quiet_ext Xok bvh_Tree_Node.ok) (bvh_Tree_deep.all d)) (deep_none _) Tryz.func116 (by kernel_rfl) (fun c _ => sok_none _ 0 c) (by kernel_rfl) (fun x => by kernel_rfl)
noncomputable def bvh_Tree_deep (x : ((List (((Option Nat × Option Nat × Option Nat) × Option Nat × Option Nat × Option Nat) × Int × Int × Int × Int)) × List (Int)) × Int) : Option (Int) := bvh_Tree_deep.h 1000 x
end Go.Proofs.Pen

namespace Go.Proofs.Pen
open Go Go.Proofs
end Go.Proofs.Pen

namespace Go.Proofs.Pen
open Go Go.Proofs
noncomputable def bvh_Tree_Tri.t (x : ((List (((Option Nat × Option Nat × Option Nat) × Option Nat × Option Nat × Option Nat) × Int × Int × Int × Int)) × List (Int)) × Int) : T (Int) := T.ite (decide (x.2 < (0 : Int))) (T.ret (-1 : Int)) (T.ite (decide (x.2 ≥ (↑(List.length x.1.2) : Int))) (T.ret (-1 : Int)) (T.opt (lget x.1.2 x.2) fun y => T.ret y))
noncomputable def bvh_Tree_Tri (x : ((List (((Option Nat × Option Nat × Option Nat) × Option Nat × Option Nat × Option Nat) × Int × Int × Int × Int)) × List (Int)) × Int) : Option (Int) := (bvh_Tree_Tri.t x).run
noncomputable def bvh_Tree_Tri.q : List AV → T AV := entry [(.ptr TTree), TI] (outR [TI]) fun x => .opt (bvh_Tree_Tri x) .ret
theorem bvh_Tree_Tri.ok : FnOK Tryz.prog 51 bvh_Tree_Tri.q :=
  entry_call (ps := [(.ptr TTree), TI]) (rs := [TI]) (F := ({ quiet := Xs, deep := noDeep } : Fns)) (D := D0) (S := tabS []) (t := bvh_Tree_Tri.t) mixed Xok (deep_none _) Tryz.func51 (by kernel_rfl) (sok_fn trivial) (by kernel_rfl) (fun x => by kernel_rfl)
end Go.Proofs.Pen

namespace Go.Proofs.Pen
open Go Go.Proofs
end Go.Proofs.Pen

namespace Go.Proofs.Pen
open Go Go.Proofs
set_option maxRecDepth 100000
end Go.Proofs.Pen

namespace Go.Proofs.Pen
open Go Go.Proofs
def ref12_May.L0 : List (Nat × Lay) := [(2, .val .bool), (3, .row TV), (4, .val TI)]
noncomputable def ref12_May.t0 (x : Bool × List (Option Nat × Option Nat × Option Nat) × Int × Unit) : T (Ex × Bool × List (Option Nat × Option Nat × Option Nat) × Int × Unit) := T.ite (decide (x.2.2.1 < (3 : Int))) (T.ite (decide ((0 : Int) ≤ x.2.2.1) && decide (x.2.2.1 < (↑x.2.1.length : Int))) (T.opt x.2.1[(0 : Nat) + Int.toNat x.2.2.1]? fun y => T.ite (ford y.1 (some (13920626448202203136 : Nat)) == some Ordering.gt || ford y.1 (some (13920626448202203136 : Nat)) == some Ordering.eq) (T.ite (decide ((0 : Int) ≤ x.2.2.1) && decide (x.2.2.1 < (↑x.2.1.length : Int))) (T.opt x.2.1[(0 : Nat) + Int.toNat x.2.2.1]? fun y => T.ite (ford y.1 (some (4697254411347427328 : Nat)) == some Ordering.lt || ford y.1 (some (4697254411347427328 : Nat)) == some Ordering.eq) (T.ite (decide ((0 : Int) ≤ x.2.2.1) && decide (x.2.2.1 < (↑x.2.1.length : Int))) (T.opt x.2.1[(0 : Nat) + Int.toNat x.2.2.1]? fun y => T.ite (ford y.2.1 (some (13920626448202203136 : Nat)) == some Ordering.gt || ford y.2.1 (some (13920626448202203136 : Nat)) == some Ordering.eq) (T.ite (decide ((0 : Int) ≤ x.2.2.1) && decide (x.2.2.1 < (↑x.2.1.length : Int))) (T.opt x.2.1[(0 : Nat) + Int.toNat x.2.2.1]? fun y => T.ite (ford y.2.1 (some (4697254411347427328 : Nat)) == some Ordering.lt || ford y.2.1 (some (4697254411347427328 : Nat)) == some Ordering.eq) (T.ite (decide ((0 : Int) ≤ x.2.2.1) && decide (x.2.2.1 < (↑x.2.1.length : Int))) (T.opt x.2.1[(0 : Nat) + Int.toNat x.2.2.1]? fun y => T.ite (ford y.2.2 (some (13920626448202203136 : Nat)) == some Ordering.gt || ford y.2.2 (some (13920626448202203136 : Nat)) == some Ordering.eq) (T.ite (decide ((0 : Int) ≤ x.2.2.1) && decide (x.2.2.1 < (↑x.2.1.length : Int))) (T.opt x.2.1[(0 : Nat) + Int.toNat x.2.2.1]? fun y => T.ite (!(ford y.2.2 (some (4697254411347427328 : Nat)) == some Ordering.lt || ford y.2.2 (some (4697254411347427328 : Nat)) == some Ordering.eq)) (T.ret (Ex.ret, false, List.take x.2.1.length x.2.1, x.2.2.1, ())) (T.ret (Ex.normal, x.1, List.take x.2.1.length x.2.1, W (x.2.2.1 + (1 : Int)), ()))) T.fail) (T.ret (Ex.ret, false, List.take x.2.1.length x.2.1, x.2.2.1, ()))) T.fail) (T.ret (Ex.ret, false, List.take x.2.1.length x.2.1, x.2.2.1, ()))) T.fail) (T.ret (Ex.ret, false, List.take x.2.1.length x.2.1, x.2.2.1, ()))) T.fail) (T.ret (Ex.ret, false, List.take x.2.1.length x.2.1, x.2.2.1, ()))) T.fail) (T.ret (Ex.ret, false, List.take x.2.1.length x.2.1, x.2.2.1, ()))) T.fail) (T.ret (Ex.exit (0 : Nat), x.1, List.take x.2.1.length x.2.1, x.2.2.1, ()))
noncomputable def ref12_May.l0 (x : Bool × List (Option Nat × Option Nat × Option Nat) × Int × Unit) : Option (Ex × Bool × List (Option Nat × Option Nat × Option Nat) × Int × Unit) := (iterT ref12_May.t0 rounds x).run
theorem ref12_May.k0 : bodies 0 (lp Tryz.f10 []) = [.loop (loopIn 0 (lp Tryz.f10 []))] ∧ WP Tryz.prog 0 (.block 0 (.loop (loopIn 0 (lp Tryz.f10 [])))) (loopS ref12_May.L0 63 0 [.exit 0, .ret] ref12_May.l0) :=
  loop_tree (L := ref12_May.L0) (F := ({ quiet := Xs, deep := noDeep } : Fns)) (D := D0) (tab := []) (t := ref12_May.t0) mixed Xok (deep_none _) (fun _ => rfl) (by kernel_rfl) (by kernel_rfl) trivial (fun x => by kernel_rfl)
noncomputable def ref12_May.t (x : ((Option Nat × Option Nat × Option Nat) × (Option Nat × Option Nat × Option Nat) × Option Nat × Option Nat × Option Nat)) : T (Bool) := T.opt (ref12_May.l0 (false, List.take (3 : Nat) [x.1, x.2.1, x.2.2], (0 : Int), ())) fun y => T.ite (exEq y.1 (Ex.exit (0 : Nat))) (T.ret true) (T.ite (exEq y.1 Ex.ret) (T.ret y.2.1) T.fail)
noncomputable def ref12_May (x : ((Option Nat × Option Nat × Option Nat) × (Option Nat × Option Nat × Option Nat) × Option Nat × Option Nat × Option Nat)) : Option (Bool) := (ref12_May.t x).run
noncomputable def ref12_May.q : List AV → T AV := entry [TTri] (outR [.bool]) fun x => .opt (ref12_May x) .ret
theorem ref12_May.ok : FnOK Tryz.prog 10 ref12_May.q :=
  entry_call (ps := [TTri]) (rs := [.bool]) (F := ({ quiet := Xs, deep := noDeep } : Fns)) (D := D0) (S := tabS [(0, loopS ref12_May.L0 63 0 [.exit 0, .ret] ref12_May.l0)]) (t := ref12_May.t) mixed Xok (deep_none _) Tryz.func10 (by kernel_rfl) (sok_fn ⟨ref12_May.k0, trivial⟩) (by kernel_rfl) (fun x => by kernel_rfl)
end Go.Proofs.Pen

namespace Go.Proofs.Pen
open Go Go.Proofs
end Go.Proofs.Pen

namespace Go.Proofs.Pen
open Go Go.Proofs
end Go.Proofs.Pen

namespace Go.Proofs.Pen
open Go Go.Proofs
noncomputable def ref04_Low.t (x : (Option Nat) × (Option Nat)) : T ((Option Nat)) := T.ite (ford x.2 x.1 == some Ordering.lt) (T.ret x.2) (T.ret x.1)
noncomputable def ref04_Low (x : (Option Nat) × (Option Nat)) : Option ((Option Nat)) := (ref04_Low.t x).run
noncomputable def ref04_Low.q : List AV → T AV := entry [.flt, .flt] (outR [.flt]) fun x => .opt (ref04_Low x) .ret
theorem ref04_Low.ok : FnOK Tryz.prog 74 ref04_Low.q :=
  entry_call (ps := [.flt, .flt]) (rs := [.flt]) (F := ({ quiet := Xs, deep := noDeep } : Fns)) (D := D0) (S := tabS []) (t := ref04_Low.t) mixed Xok (deep_none _) Tryz.func74 (by kernel_rfl) (sok_fn trivial) (by kernel_rfl) (fun x => by kernel_rfl)
end Go.Proofs.Pen

namespace Go.Proofs.Pen
open Go Go.Proofs
noncomputable def ref04_High.t (x : (Option Nat) × (Option Nat)) : T ((Option Nat)) := T.ite (ford x.2 x.1 == some Ordering.gt) (T.ret x.2) (T.ret x.1)
noncomputable def ref04_High (x : (Option Nat) × (Option Nat)) : Option ((Option Nat)) := (ref04_High.t x).run
noncomputable def ref04_High.q : List AV → T AV := entry [.flt, .flt] (outR [.flt]) fun x => .opt (ref04_High x) .ret
theorem ref04_High.ok : FnOK Tryz.prog 73 ref04_High.q :=
  entry_call (ps := [.flt, .flt]) (rs := [.flt]) (F := ({ quiet := Xs, deep := noDeep } : Fns)) (D := D0) (S := tabS []) (t := ref04_High.t) mixed Xok (deep_none _) Tryz.func73 (by kernel_rfl) (sok_fn trivial) (by kernel_rfl) (fun x => by kernel_rfl)
end Go.Proofs.Pen

namespace Go.Proofs.Pen
open Go Go.Proofs
end Go.Proofs.Pen

namespace Go.Proofs.Pen
open Go Go.Proofs
end Go.Proofs.Pen

namespace Go.Proofs.Pen
open Go Go.Proofs
end Go.Proofs.Pen

namespace Go.Proofs.Pen
open Go Go.Proofs
end Go.Proofs.Pen

namespace Go.Proofs.Pen
open Go Go.Proofs
end Go.Proofs.Pen

namespace Go.Proofs.Pen
open Go Go.Proofs
end Go.Proofs.Pen

namespace Go.Proofs.Pen
open Go Go.Proofs
end Go.Proofs.Pen

namespace Go.Proofs.Pen
open Go Go.Proofs
end Go.Proofs.Pen

namespace Go.Proofs.Pen
open Go Go.Proofs
end Go.Proofs.Pen

namespace Go.Proofs.Pen
open Go Go.Proofs
end Go.Proofs.Pen

namespace Go.Proofs.Pen
open Go Go.Proofs
end Go.Proofs.Pen

namespace Go.Proofs.Pen
open Go Go.Proofs
noncomputable def ref04_Part.t (x : (Option Nat × Option Nat × Option Nat) × Int) : T ((Option Nat)) := T.ite (x.2 == (0 : Int)) (T.ret x.1.1) (T.ite (x.2 == (1 : Int)) (T.ret x.1.2.1) (T.ret x.1.2.2))
noncomputable def ref04_Part (x : (Option Nat × Option Nat × Option Nat) × Int) : Option ((Option Nat)) := (ref04_Part.t x).run
noncomputable def ref04_Part.q : List AV → T AV := entry [TV, TI] (outR [.flt]) fun x => .opt (ref04_Part x) .ret
theorem ref04_Part.ok : FnOK Tryz.prog 59 ref04_Part.q :=
  entry_call (ps := [TV, TI]) (rs := [.flt]) (F := ({ quiet := Xs, deep := noDeep } : Fns)) (D := D0) (S := tabS []) (t := ref04_Part.t) mixed Xok (deep_none _) Tryz.func59 (by kernel_rfl) (sok_fn trivial) (by kernel_rfl) (fun x => by kernel_rfl)
end Go.Proofs.Pen

namespace Go.Proofs.Pen
open Go Go.Proofs
end Go.Proofs.Pen

namespace Go.Proofs.Pen
open Go Go.Proofs
end Go.Proofs.Pen

namespace Go.Proofs.Pen
open Go Go.Proofs
end Go.Proofs.Pen

namespace Go.Proofs.Pen
open Go Go.Proofs
end Go.Proofs.Pen

namespace Go.Proofs.Pen
open Go Go.Proofs
end Go.Proofs.Pen

namespace Go.Proofs.Pen
open Go Go.Proofs
end Go.Proofs.Pen

namespace Go.Proofs.Pen
open Go Go.Proofs
end Go.Proofs.Pen

namespace Go.Proofs.Pen
open Go Go.Proofs

theorem tr_yes {α : Type} {c : Bool} {a b : T α} (h : c = true) : (T.ite c a b).run = a.run := by rw [tr_ite, h, if_pos rfl]
theorem tr_no {α : Type} {c : Bool} {a b : T α} (h : c = false) : (T.ite c a b).run = b.run := by rw [tr_ite, h, if_neg (by simp)]

abbrev Fl := Option Nat
abbrev V3 := Fl × Fl × Fl
abbrev Bx := V3 × V3
abbrev Tr := V3 × V3 × V3
abbrev Nd := Bx × Int × Int × Int × Int

abbrev f0 : Fl := some 0
abbrev fInf : Fl := some 9218868437227405312
abbrev fNeg : Fl := some 18442240474082181120
abbrev fHalf : Fl := some 4602678819172646912
abbrev K20 : Int := 4697254411347427328
def flt (a b : Fl) : Bool := ford a b == some .lt
def feq (a b : Fl) : Bool := ford a b == some .eq
def fle (a b : Fl) : Bool := ford a b == some .lt || ford a b == some .eq
def fge (a b : Fl) : Bool := ford a b == some .gt || ford a b == some .eq
def fgt (a b : Fl) : Bool := ford a b == some .gt
def fLow (a b : Fl) : Fl := if flt b a then b else a
def fHigh (a b : Fl) : Fl := if fgt b a then b else a
def vSub (a b : V3) : V3 := (fop .sub a.1 b.1, fop .sub a.2.1 b.2.1, fop .sub a.2.2 b.2.2)
def vAdd (a b : V3) : V3 := (fop .add a.1 b.1, fop .add a.2.1 b.2.1, fop .add a.2.2 b.2.2)
def bJoin (a b : Bx) : Bx := ((fLow a.1.1 b.1.1, fLow a.1.2.1 b.1.2.1, fLow a.1.2.2 b.1.2.2), fHigh a.2.1 b.2.1, fHigh a.2.2.1 b.2.2.1, fHigh a.2.2.2 b.2.2.2)
def bNone : Bx := ((fInf, fInf, fInf), fNeg, fNeg, fNeg)
def bGrow (b : Bx) (p : V3) : Bx := bJoin b (p, p)
def bOf (t : Tr) : Bx := bGrow (bGrow (bGrow bNone t.1) t.2.1) t.2.2
def bMid (b : Bx) : V3 := (fop .mul (fop .add b.1.1 b.2.1) fHalf, fop .mul (fop .add b.1.2.1 b.2.2.1) fHalf, fop .mul (fop .add b.1.2.2 b.2.2.2) fHalf)
def tMid (t : Tr) : V3 := bMid (bOf t)
def part (v : V3) (k : Int) : Fl := if k == 0 then v.1 else if k == 1 then v.2.1 else v.2.2

theorem okey_lit {n : Nat} {i : Int} (h1 : frung n ≤ 9218868437227405311 + 1) (h2 : fkey n = i) : okey (some n) = some i := by
  simp only [okey]; rw [if_pos h1, h2]
theorem okey_inf : okey fInf = some 9218868437227405312 := okey_lit (by decide) (by decide)
theorem okey_neg : okey fNeg = some (-9218868437227405312) := okey_lit (by decide) (by decide)
theorem okey_half : okey fHalf = some 4602678819172646912 := okey_lit (by decide) (by decide)
theorem okey_m20 : okey (some 13920626448202203136) = some (-K20) := okey_lit (by decide) (by decide)
theorem okey_p20 : okey (some 4697254411347427328) = some K20 := okey_lit (by decide) (by decide)

theorem math_Inf_eq : math_Inf 1 = some fInf := rfl
theorem neg_inf : Option.map (Op.negFloat FloatKind.f64) fInf = fNeg := by decide +kernel

theorem box_less_eq (a b : Fl) : box_less (a, b) = some (fLow a b) := by
  unfold box_less box_less.t fLow flt
  simp only [tr_ite, tr_ret]
  split <;> rfl
theorem box_more_eq (a b : Fl) : box_more (a, b) = some (fHigh a b) := by
  unfold box_more box_more.t fHigh fgt
  simp only [tr_ite, tr_ret]
  split <;> rfl
theorem ref04_Low_eq (a b : Fl) : ref04_Low (a, b) = some (fLow a b) := by
  unfold ref04_Low ref04_Low.t fLow flt
  simp only [tr_ite, tr_ret]
  split <;> rfl
theorem ref04_High_eq (a b : Fl) : ref04_High (a, b) = some (fHigh a b) := by
  unfold ref04_High ref04_High.t fHigh fgt
  simp only [tr_ite, tr_ret]
  split <;> rfl
theorem box_Empty_eq (u : Unit) : box_Empty u = some bNone := by
  unfold box_Empty box_Empty.t
  simp only [tr_opt, math_Inf_eq, Option.bind_some, tr_ret, neg_inf]
  rfl
theorem box_Join_eq (a b : Bx) : box_Join (a, b) = some (bJoin a b) := by
  unfold box_Join box_Join.t bJoin
  simp only [tr_opt, box_less_eq, box_more_eq, Option.bind_some, tr_ret]
theorem box_Grow_eq (b : Bx) (p : V3) : box_Grow (b, p) = some (bGrow b p) := by
  unfold box_Grow box_Grow.t bGrow
  simp only [tr_opt, box_Join_eq, Option.bind_some, tr_ret]
theorem box_Of_eq (t : Tr) : box_Of t = some (bOf t) := by
  unfold box_Of box_Of.t bOf
  simp only [tr_opt, box_Empty_eq, box_Grow_eq, Option.bind_some, tr_ret]
theorem vec_Sub_eq (a b : V3) : vec_Sub (a, b) = some (vSub a b) := rfl
theorem vec_Add_eq (a b : V3) : vec_Add (a, b) = some (vAdd a b) := rfl
theorem box_Mid_eq (b : Bx) : box_Mid b = some (bMid b) := by
  unfold box_Mid box_Mid.t bMid
  rw [tr_opt, show vec_Add b = some (vAdd b.1 b.2) from vec_Add_eq b.1 b.2, Option.bind_some, tr_ret]
  rfl
theorem vec_Part_eq (v : V3) (k : Int) : vec_Part (v, k) = some (part v k) := by
  unfold vec_Part vec_Part.t part
  simp only [tr_ite, tr_ret]
  split
  · rfl
  · split <;> rfl
def fMay (a : Fl) : Bool := fge a (some 13920626448202203136) && fle a (some 4697254411347427328)
def vMay (v : V3) : Bool := fMay v.1 && fMay v.2.1 && fMay v.2.2
def tMay (t : Tr) : Bool := vMay t.1 && vMay t.2.1 && vMay t.2.2

theorem may_step (w : Bool) (L : List V3) (i : Nat) (hi : i < L.length) (hL : L.length = 3) : (ref12_May.t0 (w, L, (i : Int), ())).run = some (if vMay L[i] then (.normal, w, L, ((i + 1 : Nat) : Int), ()) else (.ret, false, L, (i : Int), ())) := by
  have hc : (decide ((0 : Int) ≤ (i : Int)) && decide ((i : Int) < (L.length : Int))) = true := by simp; omega
  have hg : L[0 + Int.toNat (i : Int)]? = some L[i] := by rw [Nat.zero_add, Int.toNat_natCast, List.getElem?_eq_getElem hi]
  have hw : W ((i : Int) + 1) = ((i + 1 : Nat) : Int) := by rw [W_id (by omega) (by omega)]; omega
  have e1 : ∀ a : Fl, (ford a (some 13920626448202203136) == some Ordering.gt || ford a (some 13920626448202203136) == some Ordering.eq) = fge a (some 13920626448202203136) := fun _ => rfl
  have e2 : ∀ a : Fl, (ford a (some 4697254411347427328) == some Ordering.lt || ford a (some 4697254411347427328) == some Ordering.eq) = fle a (some 4697254411347427328) := fun _ => rfl
  unfold ref12_May.t0
  dsimp only
  rw [tr_yes (by simp; omega), hc]
  simp only [hg, hw, tr_ite, tr_opt, tr_ret, if_true, Option.bind_some, e1, e2, List.take_length]
  unfold vMay fMay
  cases fge L[i].1 (some 13920626448202203136) <;> cases fle L[i].1 (some 4697254411347427328) <;> cases fge L[i].2.1 (some 13920626448202203136) <;> cases fle L[i].2.1 (some 4697254411347427328) <;> cases fge L[i].2.2 (some 13920626448202203136) <;> cases fle L[i].2.2 (some 4697254411347427328) <;> rfl

theorem ref12_May_eq (t : Tr) : ref12_May t = some (tMay t) := by
  unfold ref12_May ref12_May.t
  rw [tr_opt]
  have h := iter_scan (t := ref12_May.t0) [t.1, t.2.1, t.2.2] vMay (fun k => (false, [t.1, t.2.1, t.2.2], (k : Int), ())) (fun k => (false, [t.1, t.2.1, t.2.2], (k : Int), ())) (false, [t.1, t.2.1, t.2.2], (3 : Int), ()) .ret (.exit 0)
    (fun i hi => may_step false _ i hi rfl) (by
      unfold ref12_May.t0
      rw [tr_no (by rfl), tr_ret]; rfl) (by simp) (by simp) (m := rounds) (rounds_gt (by simp))
  have hl : ref12_May.l0 (false, List.take 3 [t.1, t.2.1, t.2.2], 0, ()) = (iterT ref12_May.t0 rounds (false, [t.1, t.2.1, t.2.2], ((0 : Nat) : Int), ())).run := rfl
  have ha : [t.1, t.2.1, t.2.2].all vMay = tMay t := by simp [tMay, Bool.and_assoc]
  rw [ha] at h
  rcases h with ⟨h1, h2⟩ | ⟨h1, i, h2⟩
  · rw [hl, h2, h1, Option.bind_some, tr_yes (by rfl), tr_ret]
  · rw [hl, h2, h1, Option.bind_some, tr_no (by rfl), tr_yes (by rfl), tr_ret]
end Go.Proofs.Pen

namespace Go.Proofs.Pen
open Go Go.Proofs

theorem mayA_step (w : Bool) (v : V3) (t : Tr) (j : Int) (i : Nat) (hi : i < [v.1, v.2.1, v.2.2].length) : (bvh_may.t2 (w, v, t, j, (i : Int), ())).run = some (if fMay [v.1, v.2.1, v.2.2][i] then (.normal, w, v, t, j, ((i + 1 : Nat) : Int), ()) else (.ret, false, v, t, j, (i : Int), ())) := by
  have hi3 : i < 3 := hi
  have hw : W ((i : Int) + 1) = ((i + 1 : Nat) : Int) := by rw [W_id (by omega) (by omega)]; omega
  have e1 : ∀ a : Fl, ((ford a (some 13920626448202203136) == some Ordering.gt || ford a (some 13920626448202203136) == some Ordering.eq) && (ford a (some 4697254411347427328) == some Ordering.lt || ford a (some 4697254411347427328) == some Ordering.eq)) = fMay a := fun _ => rfl
  have hp : part v (i : Int) = [v.1, v.2.1, v.2.2][i] := by
    match i, hi with
    | 0, _ => rfl
    | 1, _ => rfl
    | 2, _ => rfl
  unfold bvh_may.t2
  dsimp only
  rw [tr_yes (by simp; omega), tr_opt, vec_Part_eq, Option.bind_some, hp, hw, e1]
  generalize fMay _ = b
  cases b
  · rw [tr_yes (by rfl), tr_ret]; rfl
  · rw [tr_no (by rfl), tr_ret]; rfl
theorem mayA_eq (w : Bool) (v : V3) (t : Tr) (j : Int) : (vMay v = true ∧ bvh_may.l2 (w, v, t, j, 0, ()) = some (.exit 2, w, v, t, j, 3, ())) ∨ (vMay v = false ∧ ∃ i : Nat, bvh_may.l2 (w, v, t, j, 0, ()) = some (.ret, false, v, t, j, (i : Int), ())) := by
  have h := iter_scan (t := bvh_may.t2) [v.1, v.2.1, v.2.2] fMay (fun k => (w, v, t, j, (k : Int), ())) (fun k => (false, v, t, j, (k : Int), ())) (w, v, t, j, (3 : Int), ()) .ret (.exit 2)
    (fun i hi => mayA_step w v t j i hi) (by unfold bvh_may.t2; rw [tr_no (by rfl), tr_ret]; rfl) (by simp) (by simp) (m := rounds) (rounds_gt (by simp))
  have ha : [v.1, v.2.1, v.2.2].all fMay = vMay v := by simp [vMay, Bool.and_assoc]
  rw [ha] at h
  rcases h with ⟨h1, h2⟩ | ⟨h1, i, h2⟩
  · exact .inl ⟨h1, h2⟩
  · exact .inr ⟨h1, i, h2⟩
theorem mayB_step (w : Bool) (t : Tr) (i : Nat) (hi : i < [t.1, t.2.1, t.2.2].length) : (bvh_may.t0 (w, t, (i : Int), ())).run = some (if vMay [t.1, t.2.1, t.2.2][i] then (.normal, w, t, ((i + 1 : Nat) : Int), ()) else (.ret, false, t, (i : Int), ())) := by
  have hi3 : i < 3 := hi
  have hw : W ((i : Int) + 1) = ((i + 1 : Nat) : Int) := by rw [W_id (by omega) (by omega)]; omega
  have key : ∀ v : V3, ((T.opt (bvh_may.l2 (w, v, t, (i : Int), 0, ())) fun y => T.ite (exEq y.1 (Ex.exit 2)) (T.ret (Ex.normal, y.2.1, y.2.2.2.1, W (y.2.2.2.2.1 + 1), ())) (T.ite (exEq y.1 Ex.ret) (T.ret (Ex.ret, y.2.1, y.2.2.2.1, y.2.2.2.2.1, ())) T.fail)).run) = some (if vMay v then (Ex.normal, w, t, ((i + 1 : Nat) : Int), ()) else (Ex.ret, false, t, (i : Int), ())) := fun v => by
    rcases mayA_eq w v t (i : Int) with ⟨h1, h2⟩ | ⟨h1, k, h2⟩
    · rw [tr_opt, h2, Option.bind_some, tr_yes (by rfl), tr_ret, h1]; simp only [hw]; rfl
    · rw [tr_opt, h2, Option.bind_some, tr_no (by rfl), tr_yes (by rfl), tr_ret, h1]; rfl
  unfold bvh_may.t0
  dsimp only
  rw [tr_yes (by simp; omega)]
  have h012 : i = 0 ∨ i = 1 ∨ i = 2 := by omega
  rcases h012 with rfl | rfl | rfl
  · rw [tr_yes (by rfl)]; exact key t.1
  · rw [tr_no (by rfl), tr_yes (by rfl)]; exact key t.2.1
  · rw [tr_no (by rfl), tr_no (by rfl), tr_yes (by rfl)]; exact key t.2.2
theorem bvh_may_eq (t : Tr) : bvh_may t = some (tMay t) := by
  unfold bvh_may bvh_may.t
  rw [tr_opt]
  have h := iter_scan (t := bvh_may.t0) [t.1, t.2.1, t.2.2] vMay (fun k => (false, t, (k : Int), ())) (fun k => (false, t, (k : Int), ())) (false, t, (3 : Int), ()) .ret (.exit 0)
    (fun i hi => mayB_step false t i hi) (by unfold bvh_may.t0; rw [tr_no (by rfl), tr_ret]; rfl) (by simp) (by simp) (m := rounds) (rounds_gt (by simp))
  have hl : bvh_may.l0 (false, t, 0, ()) = (iterT bvh_may.t0 rounds (false, t, ((0 : Nat) : Int), ())).run := rfl
  have ha : [t.1, t.2.1, t.2.2].all vMay = tMay t := by simp [tMay, Bool.and_assoc]
  rw [ha] at h
  rcases h with ⟨h1, h2⟩ | ⟨h1, i, h2⟩
  · rw [hl, h2, h1, Option.bind_some, tr_yes (by rfl), tr_ret]
  · rw [hl, h2, h1, Option.bind_some, tr_no (by rfl), tr_yes (by rfl), tr_ret]

theorem K20_eq : K20 = 4697254411347427328 := rfl
def kx (a : Fl) : Int := (okey a).getD 0
theorem kx_of {a : Fl} {i : Int} (h : okey a = some i) : kx a = i := by unfold kx; rw [h]; rfl
def okK (a : Fl) : Prop := okey a = some (kx a) ∧ -K20 ≤ kx a ∧ kx a ≤ K20
theorem okK_of {a : Fl} {i : Int} (h : okey a = some i) (h1 : -K20 ≤ i) (h2 : i ≤ K20) : okK a := by
  have := kx_of h
  unfold okK; rw [this]; exact ⟨h, h1, h2⟩
theorem okK_may {a : Fl} (h : fMay a = true) : okK a := by
  unfold fMay fge fle at h
  rw [Bool.and_eq_true, ford_ge, ford_le, okey_m20, okey_p20] at h
  cases e : okey a with
  | none => rw [e] at h; cases h.1
  | some i =>
    rw [e] at h
    unfold kle at h
    exact okK_of e (by simpa using h.1) (by simpa using h.2)
theorem flt_kx {a b : Fl} (ha : okK a) (hb : okK b) : flt a b = decide (kx a < kx b) := by
  unfold flt; rw [ford_lt, ha.1, hb.1]; rfl
theorem fgt_kx {a b : Fl} (ha : okK a) (hb : okK b) : fgt a b = decide (kx b < kx a) := by
  unfold fgt; rw [ford_gt, ha.1, hb.1]; rfl
theorem feq_kx {a b : Fl} (ha : okK a) (hb : okK b) : feq a b = decide (kx a = kx b) := by
  unfold feq; rw [ford_eqk, ha.1, hb.1]; rfl
theorem low_none {a : Fl} (ha : okK a) : fLow fInf a = a := by
  have h : flt a fInf = true := by unfold flt; rw [ford_lt, ha.1, okey_inf]; unfold klt; have := ha.2.2; have := K20_eq; simp; omega
  unfold fLow; rw [h, if_pos rfl]
theorem high_none {a : Fl} (ha : okK a) : fHigh fNeg a = a := by
  have h : fgt a fNeg = true := by unfold fgt; rw [ford_gt, ha.1, okey_neg]; unfold klt; have := ha.2.1; have := K20_eq; simp; omega
  unfold fHigh; rw [h, if_pos rfl]
theorem low_kx {a b : Fl} (ha : okK a) (hb : okK b) : okK (fLow a b) ∧ kx (fLow a b) ≤ kx a ∧ kx (fLow a b) ≤ kx b := by
  unfold fLow
  rw [flt_kx hb ha]
  split
  · rename_i h; have := of_decide_eq_true h; exact ⟨hb, by omega, by omega⟩
  · rename_i h; have : ¬ kx b < kx a := fun e => h (decide_eq_true e); exact ⟨ha, by omega, by omega⟩
theorem high_kx {a b : Fl} (ha : okK a) (hb : okK b) : okK (fHigh a b) ∧ kx a ≤ kx (fHigh a b) ∧ kx b ≤ kx (fHigh a b) := by
  unfold fHigh
  rw [fgt_kx hb ha]
  split
  · rename_i h; have := of_decide_eq_true h; exact ⟨hb, by omega, by omega⟩
  · rename_i h; have : ¬ kx a < kx b := fun e => h (decide_eq_true e); exact ⟨ha, by omega, by omega⟩

def okA (l h : Fl) : Prop := okK l ∧ okK h ∧ kx l ≤ kx h
def okB (b : Bx) : Prop := okA b.1.1 b.2.1 ∧ okA b.1.2.1 b.2.2.1 ∧ okA b.1.2.2 b.2.2.2
def inA (l h l' h' : Fl) : Prop := kx l' ≤ kx l ∧ kx h ≤ kx h'
def inB (b c : Bx) : Prop := inA b.1.1 b.2.1 c.1.1 c.2.1 ∧ inA b.1.2.1 b.2.2.1 c.1.2.1 c.2.2.1 ∧ inA b.1.2.2 b.2.2.2 c.1.2.2 c.2.2.2
theorem join_A {l h l' h' : Fl} (a : okA l h) (b : okA l' h') : okA (fLow l l') (fHigh h h') ∧ inA l h (fLow l l') (fHigh h h') ∧ inA l' h' (fLow l l') (fHigh h h') := by
  obtain ⟨a1, a2, a3⟩ := low_kx a.1 b.1
  obtain ⟨b1, b2, b3⟩ := high_kx a.2.1 b.2.1
  have := a.2.2
  have := b.2.2
  exact ⟨⟨a1, b1, by omega⟩, ⟨a2, b2⟩, ⟨a3, b3⟩⟩
theorem join_B {b c : Bx} (hb : okB b) (hc : okB c) : okB (bJoin b c) ∧ inB b (bJoin b c) ∧ inB c (bJoin b c) := by
  obtain ⟨x1, x2, x3⟩ := join_A hb.1 hc.1
  obtain ⟨y1, y2, y3⟩ := join_A hb.2.1 hc.2.1
  obtain ⟨z1, z2, z3⟩ := join_A hb.2.2 hc.2.2
  exact ⟨⟨x1, y1, z1⟩, ⟨x2, y2, z2⟩, ⟨x3, y3, z3⟩⟩
theorem join_none {b : Bx} (hb : okB b) : bJoin bNone b = b := by
  unfold bJoin bNone
  simp only [low_none hb.1.1, low_none hb.2.1.1, low_none hb.2.2.1, high_none hb.1.2.1, high_none hb.2.1.2.1, high_none hb.2.2.2.1]
theorem inB_refl (b : Bx) : inB b b := ⟨⟨Int.le_refl _, Int.le_refl _⟩, ⟨Int.le_refl _, Int.le_refl _⟩, ⟨Int.le_refl _, Int.le_refl _⟩⟩
theorem inB_trans {a b c : Bx} (h : inB a b) (k : inB b c) : inB a c :=
  ⟨⟨Int.le_trans k.1.1 h.1.1, Int.le_trans h.1.2 k.1.2⟩, ⟨Int.le_trans k.2.1.1 h.2.1.1, Int.le_trans h.2.1.2 k.2.1.2⟩, ⟨Int.le_trans k.2.2.1 h.2.2.1, Int.le_trans h.2.2.2 k.2.2.2⟩⟩
def okV (v : V3) : Prop := okK v.1 ∧ okK v.2.1 ∧ okK v.2.2
theorem okV_may {v : V3} (h : vMay v = true) : okV v := by
  unfold vMay at h
  rw [Bool.and_eq_true, Bool.and_eq_true] at h
  exact ⟨okK_may h.1.1, okK_may h.1.2, okK_may h.2⟩
theorem okB_pt {v : V3} (h : okV v) : okB (v, v) := ⟨⟨h.1, h.1, Int.le_refl _⟩, ⟨h.2.1, h.2.1, Int.le_refl _⟩, ⟨h.2.2, h.2.2, Int.le_refl _⟩⟩

def bAll (l : List Bx) : Bx := l.foldl bJoin bNone
theorem fold_B : ∀ (l : List Bx) (a : Bx), okB a → (∀ b ∈ l, okB b) → okB (l.foldl bJoin a) ∧ inB a (l.foldl bJoin a) ∧ ∀ b ∈ l, inB b (l.foldl bJoin a)
  | [], a, ha, _ => ⟨ha, inB_refl a, fun b h => by cases h⟩
  | c :: l, a, ha, h => by
    obtain ⟨j1, j2, j3⟩ := join_B ha (h c (.head _))
    obtain ⟨k1, k2, k3⟩ := fold_B l (bJoin a c) j1 fun b hb => h b (.tail _ hb)
    refine ⟨k1, inB_trans j2 k2, fun b hb => ?_⟩
    rcases List.mem_cons.1 hb with rfl | hb
    · exact inB_trans j3 k2
    · exact k3 b hb
theorem bAll_ok {l : List Bx} (hne : l ≠ []) (h : ∀ b ∈ l, okB b) : okB (bAll l) ∧ ∀ b ∈ l, inB b (bAll l) := by
  cases l with
  | nil => exact absurd rfl hne
  | cons c l =>
    unfold bAll
    rw [List.foldl_cons, join_none (h c (.head _))]
    obtain ⟨k1, k2, k3⟩ := fold_B l c (h c (.head _)) fun b hb => h b (.tail _ hb)
    refine ⟨k1, fun b hb => ?_⟩
    rcases List.mem_cons.1 hb with rfl | hb
    · exact k2
    · exact k3 b hb
theorem bOf_ok {t : Tr} (h : tMay t = true) : okB (bOf t) := by
  unfold tMay at h
  rw [Bool.and_eq_true, Bool.and_eq_true] at h
  have h1 := okB_pt (okV_may h.1.1)
  have h2 := okB_pt (okV_may h.1.2)
  have h3 := okB_pt (okV_may h.2)
  unfold bOf bGrow
  rw [join_none h1]
  exact (join_B (join_B h1 h2).1 h3).1

theorem sum_edge : RR (valI K20 + valI K20) = 4701758010974797824 := by kernel_rfl
theorem sum_edge' : RR (-(valI K20 + valI K20)) = -4701758010974797824 := by kernel_rfl
theorem mul_edge : MM (valI 4701758010974797824 * valI 4602678819172646912) = K20 := by kernel_rfl
theorem mul_edge' : MM (valI (-4701758010974797824) * valI 4602678819172646912) = -K20 := by kernel_rfl
theorem valI_bd {i : Int} (h1 : -K20 ≤ i) (h2 : i ≤ K20) : -valI K20 ≤ valI i ∧ valI i ≤ valI K20 := by
  have a := valI_mono h2
  have b := valI_mono h1
  have c : valI (-K20) = -valI K20 := by kernel_rfl
  omega
theorem mid_ok {a b : Fl} (ha : okK a) (hb : okK b) : okK (fop .mul (fop .add a b) fHalf) := by
  have hK := K20_eq
  have h1 := add_key ha.1 hb.1 (by have := ha.2; omega) (by have := hb.2; omega)
  have a1 := valI_bd ha.2.1 ha.2.2
  have b1 := valI_bd hb.2.1 hb.2.2
  have u : RR (valI (kx a) + valI (kx b)) ≤ 4701758010974797824 := by rw [← sum_edge]; exact RR_mono (by omega)
  have l : -4701758010974797824 ≤ RR (valI (kx a) + valI (kx b)) := by rw [← sum_edge']; exact RR_mono (by omega)
  have h2 := mul_key h1 okey_half (by omega) (by decide)
  have hp : 0 ≤ valI 4602678819172646912 := by rw [← show valI 0 = 0 from by kernel_rfl]; exact valI_mono (by decide)
  refine okK_of h2 ?_ ?_
  · rw [← mul_edge']; exact MM_mono (Int.mul_le_mul_of_nonneg_right (valI_mono l) hp)
  · rw [← mul_edge]; exact MM_mono (Int.mul_le_mul_of_nonneg_right (valI_mono u) hp)
theorem bMid_ok {b : Bx} (h : okB b) : okV (bMid b) := ⟨mid_ok h.1.1 h.1.2.1, mid_ok h.2.1.1 h.2.1.2.1, mid_ok h.2.2.1 h.2.2.2.1⟩
theorem tMid_ok {t : Tr} (h : tMay t = true) : okV (tMid t) := bMid_ok (bOf_ok h)
end Go.Proofs.Pen

namespace Go.Proofs.Pen
open Go Go.Proofs

theorem bind_of {α β : Type} {o : Option α} {f : α → Option β} {y : α} {z : Option β} (h : o = some y) (k : f y = z) : o.bind f = z := by rw [h]; exact k

def tr0 : Tr := ((f0, f0, f0), (f0, f0, f0), f0, f0, f0)
def trA (l : List Tr) (i : Int) : Tr := l.getD i.toNat tr0
def okS (l : List Tr) (s : List Int) : Prop := ∀ i ∈ s, 0 ≤ i ∧ i < (l.length : Int)
theorem lget_map {α : Type} (f : Tr → α) {l : List Tr} {i : Int} (h : 0 ≤ i ∧ i < (l.length : Int)) : lget (l.map f) i = some (f (trA l i)) := by
  obtain ⟨k, rfl⟩ : ∃ k : Nat, i = k := ⟨i.toNat, by omega⟩
  have hk : k < l.length := by omega
  rw [lget_nat _ (by rw [List.length_map]; exact hk), List.getElem_map]
  unfold trA
  rw [Int.toNat_natCast, List.getD_eq_getElem?_getD, List.getElem?_eq_getElem hk, Option.getD_some]
theorem lget_tr {l : List Tr} {i : Int} (h : 0 ≤ i ∧ i < (l.length : Int)) : lget l i = some (trA l i) := by
  have := lget_map id h
  rwa [List.map_id] at this
def bxs (l : List Tr) (s : List Int) : Bx := bAll (s.map fun i => bOf (trA l i))
def mds (l : List Tr) (s : List Int) : Bx := bAll (s.map fun i => (tMid (trA l i), tMid (trA l i)))

theorem bAll_take {α : Type} (f : α → Bx) (s : List α) {k : Nat} (h : k < s.length) : bAll ((s.take (k + 1)).map f) = bJoin (bAll ((s.take k).map f)) (f s[k]) := by
  rw [map_take f s h]
  unfold bAll
  rw [List.foldl_append]; rfl

abbrev z6 : Bx := ((f0, f0, f0), f0, f0, f0)
theorem around_eq (l : List Tr) (M : List V3) (w : Bool) (N : List Nd) (O : List Int) (s : List Int) (hs : okS l s) (hl : s.length < 1000) : bvh_builder_around ((l.map bOf, M, w, N, O), s) = some (bxs l s) := by
  unfold bvh_builder_around bvh_builder_around.t
  rw [tr_opt, box_Empty_eq, Option.bind_some, tr_opt]
  have h := iter_count (t := bvh_builder_around.t0) (fun k => ((l.map bOf, M, w, N, O), z6, bAll ((s.take k).map fun i => bOf (trA l i)), s, (s.length : Int), (k : Int), ())) (e := .exit 0) (z := ((l.map bOf, M, w, N, O), z6, bxs l s, s, (s.length : Int), (s.length : Int), ())) (by simp) s.length 0 rounds (fun k _ hk => by
    have hk : k < s.length := by omega
    unfold bvh_builder_around.t0
    rw [tr_yes (by simp; omega), tr_opt, lget_nat s hk, Option.bind_some, tr_opt, lget_map bOf (hs _ (List.getElem_mem hk)), Option.bind_some, tr_opt, box_Join_eq, Option.bind_some, tr_ret, W_succ (by omega), bAll_take _ s hk]) (by
    unfold bvh_builder_around.t0
    rw [tr_no (by simp), tr_ret, Nat.zero_add, List.take_length]; rfl) (rounds_gt (by omega))
  refine bind_of h ?_
  rw [tr_yes (by rfl), tr_ret]
theorem middles_eq (l : List Tr) (B : List Bx) (w : Bool) (N : List Nd) (O : List Int) (s : List Int) (hs : okS l s) (hl : s.length < 1000) : bvh_builder_middles ((B, l.map tMid, w, N, O), s) = some (mds l s) := by
  unfold bvh_builder_middles bvh_builder_middles.t
  rw [tr_opt, box_Empty_eq, Option.bind_some, tr_opt]
  have h := iter_count (t := bvh_builder_middles.t0) (fun k => ((B, l.map tMid, w, N, O), z6, bAll ((s.take k).map fun i => (tMid (trA l i), tMid (trA l i))), s, (s.length : Int), (k : Int), ())) (e := .exit 0) (z := ((B, l.map tMid, w, N, O), z6, mds l s, s, (s.length : Int), (s.length : Int), ())) (by simp) s.length 0 rounds (fun k _ hk => by
    have hk : k < s.length := by omega
    unfold bvh_builder_middles.t0
    rw [tr_yes (by simp; omega), tr_opt, lget_nat s hk, Option.bind_some, tr_opt, lget_map tMid (hs _ (List.getElem_mem hk)), Option.bind_some, tr_opt, box_Grow_eq, Option.bind_some, tr_ret, W_succ (by omega), bAll_take _ s hk]
    rfl) (by
    unfold bvh_builder_middles.t0
    rw [tr_no (by simp), tr_ret, Nat.zero_add, List.take_length]; rfl) (rounds_gt (by omega))
  refine bind_of h ?_
  rw [tr_yes (by rfl), tr_ret]
def nums (n : Nat) : List Int := (List.range n).map fun (k : Nat) => (k : Int)
theorem nums_succ (n : Nat) : nums (n + 1) = nums n ++ [(n : Int)] := by
  unfold nums; rw [List.range_succ, List.map_append]; rfl
theorem nums_len (n : Nat) : (nums n).length = n := by unfold nums; simp
theorem nums_ok (l : List Tr) : okS l (nums l.length) := by
  intro i hi
  obtain ⟨k, hk, rfl⟩ := List.mem_map.1 hi
  have := List.mem_range.1 hk
  omega
abbrev NewS := (List Nd × List Int × Unit) × Int × (List Bx × List V3 × Bool × Unit) × List Int × List Tr × Int × Int × Unit
theorem New_loop (l : List Tr) (w : Bool) (hn : l.length ≤ 512) :
    (l.all tMay = true ∧ bvh_New.l0 (([], [], ()), 0, ([], [], w, ()), [], l, (l.length : Int), 0, ()) = some (.exit 0, ([], [], ()), 0, (l.map bOf, l.map tMid, w, ()), nums l.length, l, (l.length : Int), (l.length : Int), ())) ∨
    (l.all tMay = false ∧ ∃ z : NewS, z.2.1 = 2 ∧ bvh_New.l0 (([], [], ()), 0, ([], [], w, ()), [], l, (l.length : Int), 0, ()) = some (.ret, z)) := by
  have h := iter_scan (t := bvh_New.t0) l tMay (fun k => (([], [], ()), 0, ((l.take k).map bOf, (l.take k).map tMid, w, ()), nums k, l, (l.length : Int), (k : Int), ())) (fun k => (([], [], ()), 2, ((l.take k).map bOf, (l.take k).map tMid, w, ()), nums k, l, (l.length : Int), (k : Int), ())) (([], [], ()), 0, (l.map bOf, l.map tMid, w, ()), nums l.length, l, (l.length : Int), (l.length : Int), ()) .ret (.exit 0)
    (fun k hk => by
      have e1 : ((l.take k).map bOf).length = k := by rw [List.length_map, List.length_take]; omega
      have e2 : ((l.take k).map tMid).length = k := by rw [List.length_map, List.length_take]; omega
      unfold bvh_New.t0
      dsimp only
      rw [tr_yes (by simp; omega), tr_opt, lget_nat l hk, Option.bind_some, tr_opt, bvh_may_eq, Option.bind_some]
      have a1 := take_all ((l.take k).map bOf) (bOf l[k])
      have a2 := take_all ((l.take k).map tMid) (tMid l[k])
      have a3 := take_all (nums k) (k : Int)
      rw [e1] at a1; rw [e2] at a2; rw [nums_len] at a3
      rw [e1, e2, nums_len]
      cases hm : tMay l[k] with
      | false =>
        rw [tr_yes (by rfl), tr_ret, List.take_of_length_le (Nat.le_of_eq e1), List.take_of_length_le (Nat.le_of_eq e2), List.take_of_length_le (Nat.le_of_eq (nums_len k))]; rfl
      | true =>
        rw [tr_no (by rfl), tr_opt, box_Of_eq, Option.bind_some, tr_yes (decide_eq_true (room (by omega) (by decide))), tr_opt, box_Mid_eq, Option.bind_some, tr_yes (decide_eq_true (room (by omega) (by decide))), tr_yes (decide_eq_true (room (by omega) (by decide))), tr_ret, W_succ (by omega), a3, a1]
        rw [show bMid (bOf l[k]) = tMid l[k] from rfl, a2, map_take bOf l hk, map_take tMid l hk, nums_succ]
        rfl) (by
      unfold bvh_New.t0
      rw [tr_no (by simp), tr_ret]
      simp only [List.take_length]) (by simp) (by simp) (m := rounds) (rounds_gt (by omega))
  rcases h with ⟨h1, h2⟩ | ⟨h1, i, h2⟩
  · exact .inl ⟨h1, h2⟩
  · exact .inr ⟨h1, _, rfl, h2⟩
end Go.Proofs.Pen

namespace Go.Proofs.Pen
open Go Go.Proofs

def lon (b : Bx) : Int :=
  if fgt (fop .sub b.2.2.1 b.1.2.1) (fop .sub b.2.1 b.1.1) then (if fgt (fop .sub b.2.2.2 b.1.2.2) (fop .sub b.2.2.1 b.1.2.1) then 2 else 1)
  else if fgt (fop .sub b.2.2.2 b.1.2.2) (fop .sub b.2.1 b.1.1) then 2 else 0
theorem longest_step {d : V3} {m : Int} (k : Nat) (hk : k < 3) : (box_Longest.t0 (d, m, (k : Int), ())).run = some (.normal, d, (if fgt (part d k) (part d m) then (k : Int) else m), ((k + 1 : Nat) : Int), ()) := by
  unfold box_Longest.t0 fgt
  dsimp only
  rw [tr_yes (by simp; omega), tr_opt, vec_Part_eq, Option.bind_some, tr_opt, vec_Part_eq, Option.bind_some, W_succ (by omega), tr_ite]
  split <;> rfl
theorem box_Longest_eq {b : Bx} (hb : okB b) : box_Longest b = some (lon b) := by
  unfold box_Longest box_Longest.t
  rw [tr_opt, box_Empty_eq, Option.bind_some]
  have h0 : (ford b.1.1 bNone.1.1 == some Ordering.eq) = false := by
    rw [ford_eqk, hb.1.1.1, show okey bNone.1.1 = some 9218868437227405312 from okey_inf]
    unfold keq
    have := hb.1.1.2.2; have := K20_eq
    simp; omega
  rw [h0]
  simp only [Bool.false_and]
  rw [tr_no rfl, tr_opt, show vec_Sub (b.2, b.1) = some (vSub b.2 b.1) from rfl, Option.bind_some, tr_opt]
  generalize hd : vSub b.2 b.1 = d
  have hlon : lon b = if fgt (part d 2) (part d (if fgt (part d 1) (part d 0) then 1 else 0)) then 2 else (if fgt (part d 1) (part d 0) then 1 else 0) := by
    rw [← hd]
    show (if fgt _ _ = true then _ else _) = _
    have p0 : part (vSub b.2 b.1) 0 = fop .sub b.2.1 b.1.1 := rfl
    have p1 : part (vSub b.2 b.1) 1 = fop .sub b.2.2.1 b.1.2.1 := rfl
    have p2 : part (vSub b.2 b.1) 2 = fop .sub b.2.2.2 b.1.2.2 := rfl
    rw [p0, p1, p2]
    by_cases h1 : fgt (fop .sub b.2.2.1 b.1.2.1) (fop .sub b.2.1 b.1.1) = true
    · rw [if_pos h1, if_pos h1, p1]
    · rw [if_neg h1, if_neg h1, p0]
  have hz : fgt (part d 0) (part d 0) = false := by
    unfold fgt; rw [ford_gt]
    cases okey (part d 0) with
    | none => rfl
    | some i => unfold klt; simp
  have s0 := longest_step (d := d) (m := 0) 0 (by omega)
  rw [show ((0 : Nat) : Int) = 0 from rfl, hz] at s0
  simp only [Bool.false_eq_true, if_false] at s0
  have hrun : box_Longest.l0 (d, 0, 0, ()) = some (.exit 0, d, lon b, 3, ()) := by
    show (iterT box_Longest.t0 rounds _).run = _
    obtain ⟨r, hr⟩ : ∃ r, rounds = r + 4 := ⟨rounds - 4, by have := rounds_gt (n := 4) (by omega); omega⟩
    rw [hr, iter_step s0]
    show (iterT box_Longest.t0 (r + 3) _).run = _
    rw [iter_step (longest_step 1 (by omega))]
    show (iterT box_Longest.t0 (r + 2) _).run = _
    rw [iter_step (longest_step 2 (by omega)), hlon]
    show (iterT box_Longest.t0 (r + 1) _).run = _
    rw [iter_step (e := .exit 0) (by unfold box_Longest.t0; rw [tr_no (by rfl), tr_ret])]
    rfl
  refine bind_of hrun ?_
  rw [tr_yes (by rfl), tr_ret]

end Go.Proofs.Pen

namespace Go.Proofs.Pen
open Go Go.Proofs

def mk (l : List Tr) (ax : Int) (i : Int) : Int := kx (part (tMid (trA l i)) ax)
def okL (l : List Tr) : Prop := l.all tMay = true
theorem trA_may {l : List Tr} (h : okL l) {i : Int} (hi : 0 ≤ i ∧ i < (l.length : Int)) : tMay (trA l i) = true := by
  have := lget_tr hi
  unfold lget at this
  rw [if_neg (by omega)] at this
  exact List.all_eq_true.1 h _ (List.mem_of_getElem? this)
theorem okV_part {v : V3} (h : okV v) (ax : Int) : okK (part v ax) := by
  unfold part
  split
  · exact h.1
  · split
    · exact h.2.1
    · exact h.2.2
theorem mk_ok {l : List Tr} (h : okL l) (ax : Int) {i : Int} (hi : 0 ≤ i ∧ i < (l.length : Int)) : okK (part (tMid (trA l i)) ax) := okV_part (tMid_ok (trA_may h hi)) ax
def ltM (l : List Tr) (ax : Int) (a b : Int) : Bool := decide (mk l ax a < mk l ax b ∨ (mk l ax a = mk l ax b ∧ a < b))
theorem ltM_ord (l : List Tr) (ax : Int) (s : List Int) : OrdL (ltM l ax) s :=
  ⟨fun a _ => by unfold ltM; simp, fun a _ b _ c _ h1 h2 => by unfold ltM at *; simp at *; omega, fun a _ b _ h1 h2 => by unfold ltM at *; simp at *; omega⟩

theorem okS_take {l : List Tr} {s : List Int} (h : okS l s) (k : Nat) : okS l (s.take k) := fun i hi => h i (List.mem_of_mem_take hi)
theorem okS_drop {l : List Tr} {s : List Int} (h : okS l s) (k : Nat) : okS l (s.drop k) := fun i hi => h i (List.mem_of_mem_drop hi)
theorem CmpI_eq (a b : Int) : CmpI (a, b) = some (if a < b then -1 else if b < a then 1 else 0) := by
  unfold CmpI CmpI.t
  dsimp only
  rw [tr_no (by simp), tr_no (by simp), tr_ite]
  by_cases h : a < b
  · rw [if_pos (decide_eq_true h), if_pos h, tr_ret]
  · rw [if_neg (by simpa using h), if_neg h, tr_ite]
    by_cases h2 : b < a
    · rw [if_pos (by simpa using h2), if_pos h2, tr_ret]
    · rw [if_neg (by simpa using h2), if_neg h2, tr_ret]
theorem CmpF_eq {a b : Fl} (ha : okK a) (hb : okK b) : CmpF (a, b) = some (if kx a < kx b then -1 else if kx b < kx a then 1 else 0) := by
  have self : ∀ {x : Fl}, okK x → (ford x x != some Ordering.eq) = false := fun {x} hx => by
    have := feq_kx hx hx
    unfold feq at this
    rw [bne, this]; simp
  have h1 := flt_kx ha hb
  have h2 := fgt_kx ha hb
  unfold flt at h1
  unfold fgt at h2
  unfold CmpF CmpF.t
  dsimp only
  rw [tr_no (self ha), tr_no (self hb), h1, h2, tr_ite]
  by_cases h : kx a < kx b
  · rw [if_pos (decide_eq_true h), if_pos h, tr_ret]
  · rw [if_neg (by simpa using h), if_neg h, tr_ite]
    by_cases h2 : kx b < kx a
    · rw [if_pos (by simpa using h2), if_pos h2, tr_ret]
    · rw [if_neg (by simpa using h2), if_neg h2, tr_ret]
theorem or_step (x y : Int) (r : Int) (k : Nat) (hk : k < 2) : (cmp_Or.t0 (r, 0, [x, y], 2, (k : Int), ())).run = some (if [x, y][k] == 0 then (.normal, r, 0, [x, y], 2, ((k + 1 : Nat) : Int), ()) else (.ret, [x, y][k], 0, [x, y], 2, (k : Int), ())) := by
  unfold cmp_Or.t0
  dsimp only
  rw [tr_yes (by simp; omega), tr_opt, lget_nat [x, y] (k := k) hk, Option.bind_some, W_succ (by omega), tr_ite]
  generalize [x, y][k] = v
  by_cases h : v = 0
  · subst h; rfl
  · rw [if_pos (by simpa using h), if_neg (by simpa using h), tr_ret]
theorem cmp_Or_eq (x y : Int) : cmp_Or [x, y] = some (if x = 0 then y else x) := by
  unfold cmp_Or cmp_Or.t
  rw [tr_opt]
  obtain ⟨r, hr⟩ : ∃ r, rounds = r + 3 := ⟨rounds - 3, by have := rounds_gt (n := 3) (by omega); omega⟩
  have s0 := or_step x y 0 0 (by omega)
  have s1 := or_step x y 0 1 (by omega)
  have hl : cmp_Or.l0 (0, 0, [x, y], (([x, y] : List Int).length : Int), 0, ()) = (iterT cmp_Or.t0 (r + 3) (0, 0, [x, y], 2, ((0 : Nat) : Int), ())).run := by rw [← hr]; rfl
  by_cases h : x = 0
  · subst h
    rw [if_pos rfl]
    rw [if_pos (by rfl)] at s0
    by_cases h : y = 0
    · subst h
      rw [if_pos (by rfl)] at s1
      have s2 : (cmp_Or.t0 (0, 0, [(0 : Int), 0], 2, ((2 : Nat) : Int), ())).run = some (.exit 0, 0, 0, [(0 : Int), 0], 2, 2, ()) := by
        unfold cmp_Or.t0
        rw [tr_no (by rfl), tr_ret]; rfl
      refine bind_of (hl.trans ((iter_step s0).trans ((iter_step s1).trans (iter_step s2)))) ?_
      rw [tr_yes (by rfl), tr_ret]
    · rw [if_neg (by simpa using h)] at s1
      refine bind_of (hl.trans ((iter_step s0).trans (iter_step s1))) ?_
      rw [tr_no (by rfl), tr_yes (by rfl), tr_ret]; rfl
  · rw [if_neg (by simpa using h)] at s0
    refine bind_of (hl.trans (iter_step s0)) ?_
    rw [tr_no (by rfl), tr_yes (by rfl), tr_ret, if_neg h]; rfl

abbrev BldD := List Bx × List V3 × Bool × List Nd × List Int
theorem median1_eq (l : List Tr) (B : List Bx) (w : Bool) (N : List Nd) (O : List Int) (ax i : Int) (hi : 0 ≤ i ∧ i < (l.length : Int)) : bvh_builder_median_1 (i, (B, l.map tMid, w, N, O), ax) = some (part (tMid (trA l i)) ax) := by
  unfold bvh_builder_median_1 bvh_builder_median_1.t
  dsimp only
  rw [tr_opt, lget_map tMid hi, Option.bind_some, tr_opt, vec_Part_eq, Option.bind_some, tr_ret]
def cmpM (l : List Tr) (ax a b : Int) : Int := if mk l ax a < mk l ax b then -1 else if mk l ax b < mk l ax a then 1 else if a < b then -1 else if b < a then 1 else 0
theorem median2_eq (l : List Tr) (B : List Bx) (w : Bool) (N : List Nd) (O : List Int) (ax a b : Int) (hL : okL l) (ha : 0 ≤ a ∧ a < (l.length : Int)) (hb : 0 ≤ b ∧ b < (l.length : Int)) : bvh_builder_median_2 (a, b, (B, l.map tMid, w, N, O), ax) = some (cmpM l ax a b) := by
  unfold bvh_builder_median_2 bvh_builder_median_2.t
  dsimp only
  rw [tr_opt, median1_eq l B w N O ax a ha, Option.bind_some, tr_opt, median1_eq l B w N O ax b hb, Option.bind_some, tr_opt, CmpF_eq (mk_ok hL ax ha) (mk_ok hL ax hb), Option.bind_some, tr_opt, CmpI_eq, Option.bind_some, tr_opt]
  simp only [List.take_succ_cons, List.take_zero]
  rw [cmp_Or_eq, Option.bind_some, tr_ret]
  show some (if (if mk l ax a < mk l ax b then (-1 : Int) else if mk l ax b < mk l ax a then 1 else 0) = 0 then _ else (if mk l ax a < mk l ax b then (-1 : Int) else if mk l ax b < mk l ax a then 1 else 0)) = some (cmpM l ax a b)
  unfold cmpM
  by_cases h1 : mk l ax a < mk l ax b
  · simp [h1]
  · by_cases h2 : mk l ax b < mk l ax a
    · simp [h1, h2]
    · simp [h1, h2]
theorem cmpM_lt (l : List Tr) (ax a b : Int) : decide (cmpM l ax a b < 0) = ltM l ax a b := by
  unfold cmpM ltM
  rw [decide_eq_decide]
  split
  · simp; omega
  · split
    · simp; omega
    · split
      · simp; omega
      · split <;> simp <;> omega
theorem insB_congr {f g : Int → Int → Bool} {s : List Int} (h : ∀ a ∈ s, ∀ b ∈ s, f a b = g a b) {x : Int} (hx : x ∈ s) : ∀ l : List Int, (∀ a ∈ l, a ∈ s) → insB f x l = insB g x l
  | [], _ => rfl
  | y :: l, hl => by
    unfold insB
    rw [h x hx y (hl y (by simp)), insB_congr h hx l fun a ha => hl a (by simp [ha])]
theorem insS_congr {f g : Int → Int → Bool} {s : List Int} (h : ∀ a ∈ s, ∀ b ∈ s, f a b = g a b) : ∀ l : List Int, (∀ a ∈ l, a ∈ s) → insS f l = insS g l
  | [], _ => rfl
  | y :: l, hl => by
    unfold insS
    rw [insS_congr h l fun a ha => hl a (by simp [ha])]
    exact insB_congr h (hl y (by simp)) _ fun a ha => hl a (by simp [(insS_perm g l).mem_iff.1 ha])
theorem sortO_eq {f : Int → Int → Option Int} {lt : Int → Int → Bool} {s : List Int} (hne : s ≠ []) (hl : s.length < 1000) (h : ∀ a ∈ s, ∀ b ∈ s, ∃ n, f a b = some n ∧ decide (n < 0) = lt a b) (ho : OrdL lt s) : sortO f s = some (insS lt s) := by
  have hlt : ∀ a ∈ s, ∀ b ∈ s, ltF f a b = lt a b := fun a ha b hb => by
    obtain ⟨n, h1, h2⟩ := h a ha b hb
    unfold ltF; rw [h1]; exact h2
  have hok : ordOK f s = true := by
    unfold ordOK
    rw [Bool.and_eq_true, List.all_eq_true, List.all_eq_true]
    refine ⟨fun a ha => by rw [hlt a ha a ha, ho.irr a ha]; rfl, fun a ha => List.all_eq_true.2 fun b hb => ?_⟩
    obtain ⟨n, h1, _⟩ := h a ha b hb
    rw [hlt a ha b hb, hlt b hb a ha, h1]
    have ht : (lt a b || lt b a || a == b) = true := by
      cases hab : lt a b with
      | true => rfl
      | false =>
        cases hba : lt b a with
        | true => rfl
        | false => rw [ho.tot a ha b hb hab hba]; simp
    rw [ht]
    simp only [Option.isSome_some, Bool.and_self, Bool.true_and]
    refine List.all_eq_true.2 fun c hc => ?_
    rw [hlt b hb c hc, hlt a ha c hc]
    cases hab : lt a b with
    | false => rfl
    | true =>
      cases hbc : lt b c with
      | false => rfl
      | true => rw [ho.tr a ha b hb c hc hab hbc]; rfl
  cases s with
  | nil => exact absurd rfl hne
  | cons x s =>
    have hb : Nat.ble s.length 1000000 = true := Nat.ble_eq_true_of_le (by rw [List.length_cons] at hl; omega)
    show (match ordOK f (x :: s) && Nat.ble s.length 1000000 with
      | true => some (insS (ltF f) (x :: s))
      | false => none) = _
    rw [hok, hb]
    simp only [Bool.and_self]
    rw [insS_congr hlt (x :: s) fun _ h => h]
theorem ints_id (s : List Int) : intsOf (t := .int .i64) rfl s = s := rfl
theorem median_sort (l : List Tr) (B : List Bx) (w : Bool) (N : List Nd) (O : List Int) (ax : Int) (s : List Int) (hL : okL l) (hs : okS l s) (hne : s ≠ []) (hl : s.length < 1000) : sortO (fun a b => bvh_builder_median_2 (a, b, (B, l.map tMid, w, N, O), ax)) (List.take s.length (intsOf (t := .int .i64) rfl s)) = some (insS (ltM l ax) s) := by
  rw [ints_id, List.take_length]
  exact sortO_eq hne hl (fun a ha b hb => ⟨_, median2_eq l B w N O ax a b hL (hs a ha) (hs b hb), cmpM_lt l ax a b⟩) (ltM_ord l ax s)

def halves (l : List Tr) (ax : Int) (s : List Int) : List Int × List Int := ((insS (ltM l ax) s).take (s.length / 2), (insS (ltM l ax) s).drop (s.length / 2))
theorem half_W (n : Nat) (h : n < 1000) : W ((n : Int).tdiv 2) = ((n / 2 : Nat) : Int) := by
  have : (n : Int).tdiv 2 = ((n / 2 : Nat) : Int) := by rw [Int.tdiv_eq_ediv_of_nonneg (by omega)]; omega
  rw [this, W_id (by omega) (by omega)]
theorem median_eq (l : List Tr) (B : List Bx) (w : Bool) (N : List Nd) (O : List Int) (ax : Int) (s : List Int) (hL : okL l) (hs : okS l s) (hne : s ≠ []) (hl : s.length < 1000) : bvh_builder_median ((B, l.map tMid, w, N, O), s, ax) = some (halves l ax s) := by
  unfold bvh_builder_median bvh_builder_median.t
  dsimp only
  have hlen : (insS (ltM l ax) s).length = s.length := (insS_perm _ s).length_eq
  rw [tr_yes (by unfold most; simp; omega), tr_opt, median_sort l B w N O ax s hL hs hne hl, Option.bind_some, half_W s.length hl, tr_yes (by simp; omega), tr_yes (by simp; omega), tr_ret, ints_id, List.drop_length, List.append_nil]
  simp only [Int.toNat_natCast, Int.toNat_zero, Nat.zero_add, List.drop_zero, Nat.sub_zero]
  rw [List.take_of_length_le (i := s.length - s.length / 2) (by rw [List.length_drop, hlen]; exact Nat.le_refl _)]
  rfl
end Go.Proofs.Pen

namespace Go.Proofs.Pen
open Go Go.Proofs

abbrev f8 : Fl := some 4620693217682128896
def binv (l : List Tr) (b : Bx) (ax i : Int) : Option Int := f2i .i64 (fop .mul f8 (fop .quo (fop .sub (part (tMid (trA l i)) ax) (part b.1 ax)) (fop .sub (part b.2 ax) (part b.1 ax))))
def bn (l : List Tr) (b : Bx) (ax i : Int) : Int := if 7 < (binv l b ax i).getD 0 then 7 else (binv l b ax i).getD 0
def gtB (b : Bx) (ax : Int) : Bool := fgt (part b.2 ax) (part b.1 ax)
theorem okey_8 : okey f8 = some 4620693217682128896 := okey_lit (by decide) (by decide)
theorem mul8_edge : MM (valI 4620693217682128896 * valI 4607182418800017408) = 4620693217682128896 := by kernel_rfl
theorem okA_part {b : Bx} (h : okB b) (ax : Int) : okA (part b.1 ax) (part b.2 ax) := by
  unfold part
  split
  · exact h.1
  · split
    · exact h.2.1
    · exact h.2.2
theorem inA_part {b c : Bx} (h : inB b c) (ax : Int) : inA (part b.1 ax) (part b.2 ax) (part c.1 ax) (part c.2 ax) := by
  unfold part
  split
  · exact h.1
  · split
    · exact h.2.1
    · exact h.2.2
theorem mds_ok {l : List Tr} {s : List Int} (hL : okL l) (hs : okS l s) (hne : s ≠ []) : okB (mds l s) ∧ ∀ i ∈ s, inB (tMid (trA l i), tMid (trA l i)) (mds l s) := by
  have h := bAll_ok (l := s.map fun i => (tMid (trA l i), tMid (trA l i))) (by simpa using hne) (fun b hb => by
    obtain ⟨i, hi, rfl⟩ := List.mem_map.1 hb
    exact okB_pt (tMid_ok (trA_may hL (hs i hi))))
  exact ⟨h.1, fun i hi => h.2 _ (List.mem_map_of_mem hi)⟩
theorem bin_some {lo c hi : Fl} (hl : okK lo) (hc : okK c) (hh : okK hi) (h1 : kx lo ≤ kx c) (h2 : kx c ≤ kx hi) (hgt : kx lo < kx hi) :
    ∃ n, f2i .i64 (fop .mul f8 (fop .quo (fop .sub c lo) (fop .sub hi lo))) = some n := by
  have hK := K20_eq
  have kc := sub_key hc.1 hl.1 (by have := hc.2; omega) (by have := hl.2; omega)
  have kh := sub_key hh.1 hl.1 (by have := hh.2; omega) (by have := hl.2; omega)
  have v1 := valI_mono h1
  have v2 := valI_mono h2
  have v3 := valI_lt hgt
  have bl := valI_bd hl.2.1 hl.2.2
  have bh := valI_bd hh.2.1 hh.2.2
  have z0 : RR 0 = 0 := by kernel_rfl
  have z1 : RR 1 = 1 := by kernel_rfl
  have r1 : 0 ≤ RR (valI (kx c) - valI (kx lo)) := by rw [← z0]; exact RR_mono (by omega)
  have r2 : RR (valI (kx c) - valI (kx lo)) ≤ RR (valI (kx hi) - valI (kx lo)) := RR_mono (by omega)
  have r3 : 1 ≤ RR (valI (kx hi) - valI (kx lo)) := by rw [← z1]; exact RR_mono (by omega)
  have r4 : RR (valI (kx hi) - valI (kx lo)) ≤ 4701758010974797824 := by rw [← sum_edge]; exact RR_mono (by omega)
  obtain ⟨q, hq, q0, q1⟩ := quo_key kc kh r1 r2 (by omega) (by omega)
  have hm := mul_key okey_8 hq (by decide) (by omega)
  have w0 : valI 0 = 0 := by kernel_rfl
  have w1 := valI_mono q0
  rw [w0] at w1
  have w2 := valI_mono q1
  have w8 : 0 ≤ valI 4620693217682128896 := by rw [← w0]; exact valI_mono (by decide)
  have m0 : MM 0 = 0 := by kernel_rfl
  obtain ⟨n, hn, _⟩ := f2i_key hm (by rw [← m0]; exact MM_mono (Int.mul_nonneg w8 w1)) (Int.le_trans (MM_mono (Int.mul_le_mul_of_nonneg_left w2 w8)) (Int.le_of_eq mul8_edge))
  exact ⟨n, hn⟩
theorem binv_some {l : List Tr} {s : List Int} {ax : Int} (hL : okL l) (hs : okS l s) (hg : gtB (mds l s) ax = true) {i : Int} (hi : i ∈ s) : binv l (mds l s) ax i = some ((binv l (mds l s) ax i).getD 0) := by
  obtain ⟨h1, h2⟩ := mds_ok hL hs (List.ne_nil_of_mem hi)
  have ha := okA_part h1 ax
  have hin := inA_part (h2 i hi) ax
  unfold gtB at hg
  rw [fgt_kx ha.2.1 ha.1] at hg
  obtain ⟨n, hn⟩ := bin_some ha.1 (mk_ok hL ax (hs i hi)) ha.2.1 hin.1 hin.2 (of_decide_eq_true hg)
  have : binv l (mds l s) ax i = some n := hn
  rw [this]; rfl
theorem bbin_eq (l : List Tr) (B : List Bx) (w : Bool) (N : List Nd) (O : List Int) {s : List Int} {ax : Int} (hL : okL l) (hs : okS l s) (hg : gtB (mds l s) ax = true) {i : Int} (hi : i ∈ s) : bvh_builder_bin ((B, l.map tMid, w, N, O), i, ax, mds l s) = some (bn l (mds l s) ax i) := by
  have h := binv_some hL hs hg hi
  unfold bvh_builder_bin bvh_builder_bin.t
  dsimp only
  rw [tr_opt, vec_Part_eq, Option.bind_some, tr_opt, vec_Part_eq, Option.bind_some, tr_opt, lget_map tMid (hs i hi), Option.bind_some, tr_opt, vec_Part_eq, Option.bind_some, tr_opt]
  refine bind_of (show f2i _ _ = some ((binv l (mds l s) ax i).getD 0) from h) ?_
  rw [tr_ret]; rfl
def cutP (l : List Tr) (b : Bx) (ax k : Int) (f : Bool) (i : Int) : Bool := decide (bn l b ax i < k) == f
def cutL (l : List Tr) (b : Bx) (ax k : Int) (f : Bool) (s : List Int) : List Int := s.filter (cutP l b ax k f)
theorem filter_take (p : Int → Bool) (s : List Int) {k : Nat} (h : k < s.length) : (s.take (k + 1)).filter p = (if p s[k] then (s.take k).filter p ++ [s[k]] else (s.take k).filter p) := by
  rw [List.take_succ_eq_append_getElem h, List.filter_append, List.filter_cons]
  split <;> simp
theorem filter_take_le (p : Int → Bool) (s : List Int) (k : Nat) : ((s.take k).filter p).length ≤ k := Nat.le_trans (List.length_filter_le _ _) (by rw [List.length_take]; omega)
def halfB (b : Bx) : Fl := fop .add (fop .add (fop .mul (vSub b.2 b.1).1 (vSub b.2 b.1).2.1) (fop .mul (vSub b.2 b.1).2.1 (vSub b.2 b.1).2.2)) (fop .mul (vSub b.2 b.1).2.2 (vSub b.2 b.1).1)
theorem box_Half_eq (b : Bx) : box_Half b = some (halfB b) := by
  unfold box_Half box_Half.t
  rw [tr_opt, vec_Sub_eq, Option.bind_some, tr_ret]; rfl
def cost (l : List Tr) (a b : List Int) : Fl := fop .add (fop .mul (halfB (bxs l a)) (some (FloatKind.f64.nearest (a.length : Int)))) (fop .mul (halfB (bxs l b)) (some (FloatKind.f64.nearest (b.length : Int))))
theorem cost_eq (l : List Tr) (M : List V3) (w : Bool) (N : List Nd) (O : List Int) (a b : List Int) (ha : okS l a) (hb : okS l b) (la : a.length < 1000) (lb : b.length < 1000) : bvh_builder_cost ((l.map bOf, M, w, N, O), a, b) = some (cost l a b) := by
  unfold bvh_builder_cost bvh_builder_cost.t
  dsimp only
  rw [tr_opt, around_eq l M w N O a ha la, Option.bind_some, tr_opt, box_Half_eq, Option.bind_some, tr_opt, around_eq l M w N O b hb lb, Option.bind_some, tr_opt, box_Half_eq, Option.bind_some, tr_ret]
  rfl

def pick (l : List Tr) (b : Bx) (ax : Int) (s : List Int) (k : Int) (x : Int × Fl) : Int × Fl :=
  if (cutL l b ax k true s).isEmpty || (cutL l b ax k false s).isEmpty then x
  else if x.1 == 0 || flt (cost l (cutL l b ax k true s) (cutL l b ax k false s)) x.2 then (k, cost l (cutL l b ax k true s) (cutL l b ax k false s)) else x
def picks (l : List Tr) (b : Bx) (ax : Int) (s : List Int) : Nat → Int × Fl
  | 0 => (0, f0)
  | n + 1 => pick l b ax s ((n + 1 : Nat) : Int) (picks l b ax s n)
theorem picks_cut (l : List Tr) (b : Bx) (ax : Int) (s : List Int) : ∀ n, 0 ≤ (picks l b ax s n).1 ∧ ((picks l b ax s n).1 ≠ 0 → (cutL l b ax (picks l b ax s n).1 true s) ≠ [] ∧ (cutL l b ax (picks l b ax s n).1 false s) ≠ [])
  | 0 => ⟨by simp [picks], fun h => absurd rfl h⟩
  | n + 1 => by
    have ih := picks_cut l b ax s n
    unfold picks pick
    split
    · exact ih
    · rename_i h
      split
      · refine ⟨by dsimp only; omega, fun _ => ?_⟩
        simp only [Bool.or_eq_true, List.isEmpty_iff, not_or] at h
        exact h
      · exact ih
theorem two_filter (q : Int → Bool) : ∀ s : List Int, (s.filter fun i => q i == true).length + (s.filter fun i => q i == false).length = s.length
  | [] => rfl
  | i :: s => by
    have ih := two_filter q s
    rw [List.filter_cons, List.filter_cons]
    cases q i with
    | true => rw [if_pos (by rfl), if_neg (by decide), List.length_cons, List.length_cons]; omega
    | false => rw [if_neg (by decide), if_pos (by rfl), List.length_cons, List.length_cons]; omega
theorem cutL_len (l : List Tr) (b : Bx) (ax k : Int) (s : List Int) : (cutL l b ax k true s).length + (cutL l b ax k false s).length = s.length := two_filter (fun i => decide (bn l b ax i < k)) s
theorem okS_cut {l : List Tr} {s : List Int} (h : okS l s) (b : Bx) (ax k : Int) (f : Bool) : okS l (cutL l b ax k f s) := fun i hi => h i (List.mem_filter.1 hi).1
def parted (l : List Tr) (w : Bool) (s : List Int) : List Int × List Int :=
  if w && gtB (mds l s) (lon (mds l s)) && ((picks l (mds l s) (lon (mds l s)) s 7).1 != 0) then (cutL l (mds l s) (lon (mds l s)) (picks l (mds l s) (lon (mds l s)) s 7).1 true s, cutL l (mds l s) (lon (mds l s)) (picks l (mds l s) (lon (mds l s)) s 7).1 false s)
  else halves l (lon (mds l s)) s
theorem parted_ok {l : List Tr} {s : List Int} (w : Bool) (hs : okS l s) (h2 : 2 ≤ s.length) : okS l (parted l w s).1 ∧ okS l (parted l w s).2 ∧ (parted l w s).1 ≠ [] ∧ (parted l w s).2 ≠ [] ∧ (parted l w s).1.length + (parted l w s).2.length = s.length := by
  unfold parted
  split
  · rename_i h
    rw [Bool.and_eq_true] at h
    obtain ⟨e1, e2⟩ := (picks_cut l (mds l s) (lon (mds l s)) s 7).2 (by simpa using h.2)
    exact ⟨okS_cut hs _ _ _ _, okS_cut hs _ _ _ _, e1, e2, cutL_len _ _ _ _ _⟩
  · have hp := insS_perm (ltM l (lon (mds l s))) s
    have hlen := hp.length_eq
    have ho : okS l (insS (ltM l (lon (mds l s))) s) := fun i hi => hs i (hp.mem_iff.1 hi)
    unfold halves
    refine ⟨okS_take ho _, okS_drop ho _, ?_, ?_, ?_⟩
    · intro e; have := congrArg List.length e; rw [List.length_take, hlen, List.length_nil] at this; omega
    · intro e; have := congrArg List.length e; rw [List.length_drop, hlen, List.length_nil] at this; omega
    · dsimp only; rw [List.length_take, List.length_drop, hlen]; omega
end Go.Proofs.Pen

namespace Go.Proofs.Pen
open Go Go.Proofs

theorem pick_eq (l : List Tr) (b : Bx) (ax : Int) (s : List Int) (k : Int) (j : Int) (c : Fl) : pick l b ax s k (j, c) = if ((cutL l b ax k true s).length : Int) == 0 || ((cutL l b ax k false s).length : Int) == 0 then (j, c) else if j == 0 || ford (cost l (cutL l b ax k true s) (cutL l b ax k false s)) c == some .lt then (k, cost l (cutL l b ax k true s) (cutL l b ax k false s)) else (j, c) := by
  have h : ∀ x : List Int, x.isEmpty = ((x.length : Int) == 0) := fun x => by
    cases x with
    | nil => rfl
    | cons a x => rw [List.length_cons]; symm; simp; omega
  unfold pick flt
  rw [h, h]
theorem cut_le (l : List Tr) (b : Bx) (ax k : Int) (f : Bool) (s : List Int) : (cutL l b ax k f s).length ≤ s.length := List.length_filter_le _ _
end Go.Proofs.Pen

namespace Go.Proofs.Pen
open Go Go.Proofs

abbrev bld (l : List Tr) (w : Bool) (N : List Nd) (O : List Int) : BldD := (l.map bOf, l.map tMid, w, N, O)
theorem split_eq (l : List Tr) (w : Bool) (N : List Nd) (O : List Int) (s : List Int) (ax k : Int) (bA bB : List Int) (c : Fl) (hL : okL l) (hs : okS l s) (hl : s.length < 900) (hg : gtB (mds l s) ax = true) :
    bvh_builder_cheapest.l2 (bld l w N O, s, ax, mds l s, (bA, bB, ()), c, k, ([], [], ()), s, (s.length : Int), 0, ()) = some (.exit 2, bld l w N O, s, ax, mds l s, (bA, bB, ()), c, k, (cutL l (mds l s) ax k true s, cutL l (mds l s) ax k false s, ()), s, (s.length : Int), (s.length : Int), ()) := by
  refine iter_count (t := bvh_builder_cheapest.t2) (fun j => (bld l w N O, s, ax, mds l s, (bA, bB, ()), c, k, ((s.take j).filter (cutP l (mds l s) ax k true), (s.take j).filter (cutP l (mds l s) ax k false), ()), s, (s.length : Int), (j : Int), ())) (e := .exit 2) (by simp) s.length 0 rounds (fun j _ hj => ?_) ?_ (rounds_gt (by omega))
  · have hj : j < s.length := by omega
    have hm := List.getElem_mem hj
    have l1 := filter_take_le (cutP l (mds l s) ax k true) s j
    have l2 := filter_take_le (cutP l (mds l s) ax k false) s j
    rw [filter_take _ s hj, filter_take _ s hj]
    generalize (s.take j).filter (cutP l (mds l s) ax k true) = A at l1
    generalize (s.take j).filter (cutP l (mds l s) ax k false) = B at l2
    unfold bvh_builder_cheapest.t2
    dsimp only
    rw [tr_yes (by simp; omega), tr_opt, lget_nat s hj, Option.bind_some, tr_opt, bbin_eq l _ w N O hL hs hg hm, Option.bind_some, W_succ (by omega)]
    by_cases h : bn l (mds l s) ax s[j] < k
    · have c1 : cutP l (mds l s) ax k true s[j] = true := by unfold cutP; simp [h]
      have c2 : cutP l (mds l s) ax k false s[j] = false := by unfold cutP; simp [h]
      rw [c1, c2, if_pos rfl, if_neg (by simp), tr_no (by simp; omega), tr_yes (by rfl), tr_yes (decide_eq_true (room (by omega) (by decide))), tr_yes (by rfl), tr_ret, take_all]
      simp only [List.take_length]
    · have c1 : cutP l (mds l s) ax k true s[j] = false := by unfold cutP; simp [h]
      have c2 : cutP l (mds l s) ax k false s[j] = true := by unfold cutP; simp [h]
      rw [c1, c2, if_pos rfl, if_neg (by simp), tr_yes (by simp; omega), tr_no (by rfl), tr_yes (by rfl), tr_yes (decide_eq_true (room (by omega) (by decide))), tr_no (by rfl), tr_yes (by rfl), tr_ret, take_all]
      simp only [List.take_length]
  · unfold bvh_builder_cheapest.t2
    rw [tr_no (by simp), tr_ret, Nat.zero_add, List.take_length]
    simp only [List.take_length]
    rfl
def bestL (l : List Tr) (b : Bx) (ax : Int) (s : List Int) (j : Int) : List Int × List Int × Unit := if j == 0 then ([], [], ()) else (cutL l b ax j true s, cutL l b ax j false s, ())
theorem bestL_len (l : List Tr) (b : Bx) (ax : Int) (s : List Int) (n : Nat) : (((bestL l b ax s (picks l b ax s n).1).1.length : Int) == 0) = ((picks l b ax s n).1 == 0) := by
  have h := picks_cut l b ax s n
  generalize (picks l b ax s n).1 = j at h
  unfold bestL
  by_cases h0 : j = 0
  · subst h0; rfl
  · rw [if_neg (by simpa using h0)]
    have h1 := (h.2 h0).1
    have : (j == 0) = false := by simpa using h0
    rw [this]
    cases hc : cutL l b ax j true s with
    | nil => exact absurd hc h1
    | cons a x => rw [List.length_cons]; simp; omega
theorem cheap_step (l : List Tr) (w : Bool) (N : List Nd) (O : List Int) (s : List Int) (ax : Int) (hL : okL l) (hs : okS l s) (hl : s.length < 900) (hg : gtB (mds l s) ax = true) (k : Nat) (hk : k < 7) :
    (bvh_builder_cheapest.t0 (bld l w N O, s, ax, mds l s, bestL l (mds l s) ax s (picks l (mds l s) ax s k).1, (picks l (mds l s) ax s k).2, ((k + 1 : Nat) : Int), ())).run = some (.normal, bld l w N O, s, ax, mds l s, bestL l (mds l s) ax s (picks l (mds l s) ax s (k + 1)).1, (picks l (mds l s) ax s (k + 1)).2, ((k + 2 : Nat) : Int), ()) := by
  have hgt : (!(ford (part (mds l s).2 ax) (part (mds l s).1 ax) == some Ordering.gt)) = false := by
    have : (ford (part (mds l s).2 ax) (part (mds l s).1 ax) == some Ordering.gt) = true := hg
    rw [this]; rfl
  have hb := bestL_len l (mds l s) ax s k
  rw [show picks l (mds l s) ax s (k + 1) = pick l (mds l s) ax s ((k + 1 : Nat) : Int) (picks l (mds l s) ax s k) from rfl]
  generalize picks l (mds l s) ax s k = x at hb
  obtain ⟨j, c⟩ := x
  dsimp only at hb ⊢
  rw [pick_eq]
  have hA := split_eq l w N O s ax ((k + 1 : Nat) : Int) (bestL l (mds l s) ax s j).1 (bestL l (mds l s) ax s j).2.1 c hL hs hl hg
  unfold bvh_builder_cheapest.t0
  dsimp only
  rw [tr_yes (by simp; omega), tr_opt, vec_Part_eq, Option.bind_some, tr_opt, vec_Part_eq, Option.bind_some, tr_no hgt, List.take_length, List.take_length, tr_opt, hA, Option.bind_some, tr_yes (by rfl)]
  dsimp only
  simp only [List.take_length]
  rw [W_succ (by omega)]
  have hne : bestL l (mds l s) ax s ((k + 1 : Nat) : Int) = (cutL l (mds l s) ax ((k + 1 : Nat) : Int) true s, cutL l (mds l s) ax ((k + 1 : Nat) : Int) false s, ()) := by unfold bestL; rw [if_neg (by simp; omega)]
  generalize hA' : cutL l (mds l s) ax ((k + 1 : Nat) : Int) true s = A at hne
  generalize hB' : cutL l (mds l s) ax ((k + 1 : Nat) : Int) false s = B at hne
  have oA : okS l A := by rw [← hA']; exact okS_cut hs _ _ _ _
  have oB : okS l B := by rw [← hB']; exact okS_cut hs _ _ _ _
  have lA : A.length < 1000 := by rw [← hA']; exact Nat.lt_of_le_of_lt (cut_le ..) (by omega)
  have lB : B.length < 1000 := by rw [← hB']; exact Nat.lt_of_le_of_lt (cut_le ..) (by omega)
  by_cases h1 : ((A.length : Int) == 0) = true
  · rw [tr_yes h1, tr_ret, h1]; rfl
  · have h1 : ((A.length : Int) == 0) = false := by simpa using h1
    rw [tr_no h1]
    by_cases h2 : ((B.length : Int) == 0) = true
    · rw [tr_yes h2, tr_ret, h1, h2]; rfl
    · have h2 : ((B.length : Int) == 0) = false := by simpa using h2
      rw [tr_no h2, tr_opt, cost_eq l _ w N O A B oA oB lA lB, Option.bind_some, h1, h2, hb, tr_ite, if_neg (show ¬ (false || false) = true by simp)]
      split
      · rw [tr_ret, hne]
      · rw [tr_ret]
theorem cheapest_eq (l : List Tr) (N : List Nd) (O : List Int) (s : List Int) (hL : okL l) (hs : okS l s) (h2 : 2 ≤ s.length) (hl : s.length < 900) : bvh_builder_cheapest (bld l true N O, s, lon (mds l s), mds l s) = some (parted l true s) := by
  have hne : s ≠ [] := fun e => by rw [e] at h2; simp at h2
  unfold bvh_builder_cheapest bvh_builder_cheapest.t
  dsimp only
  rw [tr_opt]
  have hlen : (insS (ltM l (lon (mds l s))) s).length = s.length := (insS_perm _ s).length_eq
  obtain ⟨r, hr⟩ : ∃ r, rounds = r + 1 := ⟨rounds - 1, by have := rounds_gt (n := 1) (by omega); omega⟩
  unfold parted
  cases hg : gtB (mds l s) (lon (mds l s)) with
  | false =>
    have hgt : (!(ford (part (mds l s).2 (lon (mds l s))) (part (mds l s).1 (lon (mds l s))) == some Ordering.gt)) = true := by
      have : (ford (part (mds l s).2 (lon (mds l s))) (part (mds l s).1 (lon (mds l s))) == some Ordering.gt) = false := hg
      rw [this]; rfl
    have hrun : bvh_builder_cheapest.l0 (bld l true N O, s, lon (mds l s), mds l s, ([], [], ()), some 0, 1, ()) = some (.exit 0, bld l true N O, s, lon (mds l s), mds l s, ([], [], ()), some 0, 1, ()) := by
      show (iterT bvh_builder_cheapest.t0 rounds _).run = _
      rw [hr, iter_step (e := .exit 0) (by unfold bvh_builder_cheapest.t0; dsimp only; rw [tr_yes (by rfl), tr_opt, vec_Part_eq, Option.bind_some, tr_opt, vec_Part_eq, Option.bind_some, tr_yes hgt, tr_ret])]
      rfl
    refine bind_of hrun ?_
    rw [tr_yes (by rfl), tr_yes (by rfl)]
    dsimp only
    rw [tr_yes (by unfold most; simp; omega), tr_opt, median_sort l _ true N O _ s hL hs hne (by omega), Option.bind_some, half_W s.length (by omega), tr_yes (by simp; omega), tr_yes (by simp; omega), tr_ret, ints_id, List.drop_length, List.append_nil]
    simp only [Int.toNat_natCast, Int.toNat_zero, Nat.zero_add, List.drop_zero, Nat.sub_zero]
    rw [List.take_of_length_le (i := s.length - s.length / 2) (by rw [List.length_drop, hlen]; exact Nat.le_refl _)]
    rfl
  | true =>
    have h := iter_count (t := bvh_builder_cheapest.t0) (fun k => (bld l true N O, s, lon (mds l s), mds l s, bestL l (mds l s) (lon (mds l s)) s (picks l (mds l s) (lon (mds l s)) s k).1, (picks l (mds l s) (lon (mds l s)) s k).2, ((k + 1 : Nat) : Int), ())) (e := .exit 0) (z := (bld l true N O, s, lon (mds l s), mds l s, bestL l (mds l s) (lon (mds l s)) s (picks l (mds l s) (lon (mds l s)) s 7).1, (picks l (mds l s) (lon (mds l s)) s 7).2, 8, ())) (by simp) 7 0 rounds (fun k _ hk => cheap_step l true N O s _ hL hs hl hg k (by omega)) (by
      unfold bvh_builder_cheapest.t0
      rw [tr_no (by rfl), tr_ret]
      simp only [List.take_length]
      rfl) (rounds_gt (by omega))
    refine bind_of h ?_
    have hb := bestL_len l (mds l s) (lon (mds l s)) s 7
    rw [tr_yes (by rfl)]
    generalize picks l (mds l s) (lon (mds l s)) s 7 = x at hb
    obtain ⟨j, c⟩ := x
    dsimp only at hb ⊢
    by_cases h0 : j = 0
    · subst h0
      rw [tr_yes (by rfl)]
      rw [tr_yes (by unfold most; simp; omega), tr_opt, median_sort l _ true N O _ s hL hs hne (by omega), Option.bind_some, half_W s.length (by omega), tr_yes (by simp; omega), tr_yes (by simp; omega), tr_ret, ints_id, List.drop_length, List.append_nil]
      simp only [Int.toNat_natCast, Int.toNat_zero, Nat.zero_add, List.drop_zero, Nat.sub_zero]
      rw [List.take_of_length_le (i := s.length - s.length / 2) (by rw [List.length_drop, hlen]; exact Nat.le_refl _)]
      rfl
    · have hj : (j == 0) = false := by simpa using h0
      rw [hj] at hb
      rw [tr_no hb, tr_ret, if_pos (by simpa using h0)]
      unfold bestL
      rw [if_neg (by simpa using h0), List.take_length, List.take_length]
end Go.Proofs.Pen

namespace Go.Proofs.Pen
open Go Go.Proofs

def lessI (a b : Int) : Bool := decide (a < b)
def pre (l : List Tr) (w : Bool) : Nat → List Int → Nat → Nat → List Nd × List Int
  | 0, _, _, _ => ([], [])
  | d + 1, s, n0, o0 =>
    if s.length ≤ 4 then ([(bxs l s, 0, 0, (o0 : Int), ((o0 + s.length : Nat) : Int))], insS lessI s)
    else ((bxs l s, ((n0 + 1 : Nat) : Int), ((n0 + 1 + (pre l w d (parted l w s).1 (n0 + 1) o0).1.length : Nat) : Int), 0, 0) :: ((pre l w d (parted l w s).1 (n0 + 1) o0).1 ++ (pre l w d (parted l w s).2 (n0 + 1 + (pre l w d (parted l w s).1 (n0 + 1) o0).1.length) (o0 + (pre l w d (parted l w s).1 (n0 + 1) o0).2.length)).1), (pre l w d (parted l w s).1 (n0 + 1) o0).2 ++ (pre l w d (parted l w s).2 (n0 + 1 + (pre l w d (parted l w s).1 (n0 + 1) o0).1.length) (o0 + (pre l w d (parted l w s).1 (n0 + 1) o0).2.length)).2)
theorem pre_size (l : List Tr) (w : Bool) : ∀ (d : Nat) (s : List Int) (n0 o0 : Nat), okS l s → s.length ≤ d → (pre l w (d + 1) s n0 o0).2.length = s.length ∧ 1 ≤ (pre l w (d + 1) s n0 o0).1.length ∧ (pre l w (d + 1) s n0 o0).1.length ≤ 2 * s.length + 1 ∧ (s ≠ [] → (pre l w (d + 1) s n0 o0).1.length + 1 ≤ 2 * s.length)
  | d, s, n0, o0, hs, hd => by
    unfold pre
    split
    · refine ⟨(insS_perm _ s).length_eq, by simp, by simp, fun h => ?_⟩
      have := List.length_pos_iff.2 h
      simp; omega
    · rename_i h4
      cases d with
      | zero => omega
      | succ d =>
        obtain ⟨p1, p2, p3, p4, p5⟩ := parted_ok w hs (by omega)
        have q3 := List.length_pos_iff.2 p3
        have q4 := List.length_pos_iff.2 p4
        obtain ⟨a1, a2, a3, a4⟩ := pre_size l w d (parted l w s).1 (n0 + 1) o0 p1 (by omega)
        obtain ⟨b1, b2, b3, b4⟩ := pre_size l w d (parted l w s).2 (n0 + 1 + (pre l w (d + 1) (parted l w s).1 (n0 + 1) o0).1.length) (o0 + (pre l w (d + 1) (parted l w s).1 (n0 + 1) o0).2.length) p2 (by omega)
        have a4 := a4 p3
        have b4 := b4 p4
        refine ⟨?_, ?_, ?_, fun _ => ?_⟩
        · rw [List.length_append, a1]; rw [a1] at b1; rw [b1]; exact p5
        · simp
        · simp only [List.length_cons, List.length_append]; omega
        · simp only [List.length_cons, List.length_append]; omega

theorem set_last {α : Type} (N : List α) (a b : α) : (N ++ [a]).set N.length b = N ++ [b] := by simp
theorem leaf_eq (l : List Tr) (w : Bool) (h : bvh_build.Fun) (s : List Int) (N : List Nd) (O : List Int) (hs : okS l s) (h4 : s.length ≤ 4) (hN : N.length < 3000) (hO : O.length < 3000) :
    (bvh_build.t h ((l.map bOf, l.map tMid, w, ()), (N, O, ()), s, ())).run = some ((N.length : Int), (l.map bOf, l.map tMid, w, ()), (N ++ [(bxs l s, 0, 0, (O.length : Int), ((O.length + s.length : Nat) : Int))], O ++ insS lessI s, ()), ()) := by
  have hlen : (insS lessI s).length = s.length := (insS_perm _ s).length_eq
  unfold bvh_build.t
  dsimp only
  simp only [List.take_length, ints_id, List.drop_length, List.append_nil, Nat.zero_add, Int.toNat_natCast]
  rw [tr_opt, around_eq l _ w N O s hs (by omega), Option.bind_some, tr_yes (by unfold most; simp; omega), tr_yes (by simp; omega), tr_yes (by unfold most; simp; omega), tr_yes (by simp; omega)]
  have hins : List.take s.length (insS (fun a b => decide (a < b)) s) = insS lessI s := List.take_of_length_le (Nat.le_of_eq hlen)
  rw [hins, hlen, tr_yes (by unfold most; simp; omega), tr_yes (by simp; omega), tr_opt, set_last, List.getElem?_append_right (Nat.le_refl _), Nat.sub_self]
  simp only [List.getElem?_cons_zero, Option.bind_some]
  rw [tr_ret, List.take_of_length_le (by simp), List.take_of_length_le (by simp [hlen])]

theorem node_eq (l : List Tr) (w : Bool) (h : bvh_build.Fun) (s : List Int) (N : List Nd) (O : List Int) (hL : okL l) (hs : okS l s) (h4 : ¬ s.length ≤ 4) (hl : s.length < 900) (hN : N.length < 3000) {X Y : List Nd × List Int} {k : Nat}
    (hX : h ((l.map bOf, l.map tMid, w, ()), (N ++ [(bxs l s, 0, 0, 0, 0)], O, ()), (parted l w s).1, ()) = some (((N.length + 1 : Nat) : Int), (l.map bOf, l.map tMid, w, ()), (N ++ [(bxs l s, 0, 0, 0, 0)] ++ X.1, O ++ X.2, ()), ()))
    (hY : h ((l.map bOf, l.map tMid, w, ()), (N ++ [(bxs l s, 0, 0, 0, 0)] ++ X.1, O ++ X.2, ()), (parted l w s).2, ()) = some ((k : Int), (l.map bOf, l.map tMid, w, ()), (N ++ [(bxs l s, 0, 0, 0, 0)] ++ X.1 ++ Y.1, O ++ X.2 ++ Y.2, ()), ())) :
    (bvh_build.t h ((l.map bOf, l.map tMid, w, ()), (N, O, ()), s, ())).run = some ((N.length : Int), (l.map bOf, l.map tMid, w, ()), (N ++ ((bxs l s, ((N.length + 1 : Nat) : Int), (k : Int), 0, 0) :: (X.1 ++ Y.1)), O ++ (X.2 ++ Y.2), ()), ()) := by
  have hne : s ≠ [] := fun e => by rw [e] at h4; simp at h4
  have hset : (N ++ [(bxs l s, (0 : Int), (0 : Int), (0 : Int), (0 : Int))] ++ X.1 ++ Y.1).set N.length (bxs l s, ((N.length + 1 : Nat) : Int), (k : Int), (0 : Int), (0 : Int)) = N ++ ((bxs l s, ((N.length + 1 : Nat) : Int), (k : Int), (0 : Int), (0 : Int)) :: (X.1 ++ Y.1)) := by simp
  have hget : (N ++ [(bxs l s, (0 : Int), (0 : Int), (0 : Int), (0 : Int))] ++ X.1 ++ Y.1)[N.length]? = some (bxs l s, 0, 0, 0, 0) := by simp
  have hlt : (decide ((0 : Int) ≤ (N.length : Int)) && decide ((N.length : Int) < ((N ++ [(bxs l s, (0 : Int), (0 : Int), (0 : Int), (0 : Int))] ++ X.1 ++ Y.1).length : Int))) = true := by simp; omega
  have htk : List.take (N.length + 1) (N ++ [(bxs l s, (0 : Int), (0 : Int), (0 : Int), (0 : Int))]) = N ++ [(bxs l s, 0, 0, 0, 0)] := List.take_of_length_le (by simp)
  have hlen : (N ++ [(bxs l s, (0 : Int), (0 : Int), (0 : Int), (0 : Int))] ++ X.1 ++ Y.1).length = (N ++ ((bxs l s, ((N.length + 1 : Nat) : Int), (k : Int), (0 : Int), (0 : Int)) :: (X.1 ++ Y.1))).length := by simp
  unfold bvh_build.t
  dsimp only
  simp only [List.take_length, Nat.zero_add, Int.toNat_natCast]
  rw [tr_opt, around_eq l _ w N O s hs (by omega), Option.bind_some, tr_yes (by unfold most; simp; omega), tr_no (by simp; omega), htk, tr_opt, middles_eq l _ w _ O s hs (by omega), Option.bind_some, tr_opt, box_Longest_eq (mds_ok hL hs hne).1, Option.bind_some]
  cases w with
  | true =>
    rw [tr_yes rfl, tr_opt, cheapest_eq l _ O s hL hs (by omega) hl, Option.bind_some, tr_opt, hX, Option.bind_some, tr_opt, hY, Option.bind_some]
    dsimp only
    rw [tr_yes hlt, tr_opt, hget, Option.bind_some, tr_ret, hset, hlen, List.take_length, List.append_assoc O]
  | false =>
    have hp : parted l false s = halves l (lon (mds l s)) s := by unfold parted; simp
    rw [tr_no rfl, tr_opt, median_eq l _ false _ O _ s hL hs hne (by omega), Option.bind_some, ← hp, tr_opt, hX, Option.bind_some, tr_opt, hY, Option.bind_some]
    dsimp only
    rw [tr_yes hlt, tr_opt, hget, Option.bind_some, tr_ret, hset, hlen, List.take_length, List.append_assoc O]
theorem build_eq (l : List Tr) (w : Bool) (hL : okL l) : ∀ (d : Nat) (s : List Int) (N : List Nd) (O : List Int), okS l s → s.length ≤ d → s.length < 900 → N.length + 2 * s.length < 2900 → O.length + s.length < 3000 →
    bvh_build.h (d + 1) ((l.map bOf, l.map tMid, w, ()), (N, O, ()), s, ()) = some ((N.length : Int), (l.map bOf, l.map tMid, w, ()), (N ++ (pre l w (d + 1) s N.length O.length).1, O ++ (pre l w (d + 1) s N.length O.length).2, ()), ())
  | d, s, N, O, hs, hd, hl, hN, hO => by
    show (bvh_build.t (bvh_build.h d) _).run = _
    unfold pre
    by_cases h4 : s.length ≤ 4
    · rw [if_pos h4, leaf_eq l w _ s N O hs h4 (by omega) (by omega)]
    · rw [if_neg h4]
      cases d with
      | zero => omega
      | succ d =>
        obtain ⟨p1, p2, p3, p4, p5⟩ := parted_ok w hs (by omega)
        have q3 := List.length_pos_iff.2 p3
        have q4 := List.length_pos_iff.2 p4
        obtain ⟨a1, _, _, a4⟩ := pre_size l w d (parted l w s).1 (N.length + 1) O.length p1 (by omega)
        have a4 := a4 p3
        have hX := build_eq l w hL d (parted l w s).1 (N ++ [(bxs l s, 0, 0, 0, 0)]) O p1 (by omega) (by omega) (by simp; omega) (by omega)
        rw [show (N ++ [(bxs l s, (0 : Int), (0 : Int), (0 : Int), (0 : Int))]).length = N.length + 1 by simp] at hX
        have hY := build_eq l w hL d (parted l w s).2 (N ++ [(bxs l s, 0, 0, 0, 0)] ++ (pre l w (d + 1) (parted l w s).1 (N.length + 1) O.length).1) (O ++ (pre l w (d + 1) (parted l w s).1 (N.length + 1) O.length).2) p2 (by omega) (by omega) (by simp only [List.length_append, List.length_cons, List.length_nil]; omega) (by simp only [List.length_append]; omega)
        rw [show (N ++ [(bxs l s, (0 : Int), (0 : Int), (0 : Int), (0 : Int))] ++ (pre l w (d + 1) (parted l w s).1 (N.length + 1) O.length).1).length = N.length + 1 + (pre l w (d + 1) (parted l w s).1 (N.length + 1) O.length).1.length by simp; omega, List.length_append] at hY
        exact node_eq l w _ s N O hL hs h4 hl (by omega) hX hY
end Go.Proofs.Pen

namespace Go.Proofs.Pen
open Go Go.Proofs

def treeOf (l : List Tr) (w : Bool) : List Nd × List Int := pre l w 1000 (nums l.length) 0 0
theorem New_ok (l : List Tr) (w : Bool) (h : l.length ≤ 512) (hL : okL l) : bvh_New (l, w) = some (some (treeOf l w), 0) := by
  unfold bvh_New bvh_New.t
  dsimp only
  rw [tr_no (by simp; omega), tr_opt]
  rcases New_loop l w h with ⟨_, h2⟩ | ⟨h1, _⟩
  · refine bind_of h2 ?_
    rw [tr_yes (by rfl), tr_opt]
    simp only [List.take_length]
    have hb := build_eq l w hL 999 (nums l.length) [] [] (nums_ok l) (by rw [nums_len]; omega) (by rw [nums_len]; omega) (by rw [nums_len]; simp; omega) (by rw [nums_len]; simp; omega)
    rw [show (999 + 1 : Nat) = 1000 from rfl, List.nil_append, List.nil_append, List.length_nil, List.length_nil] at hb
    refine bind_of hb ?_
    rw [tr_ret]
    unfold treeOf
    rfl
  · unfold okL at hL; rw [hL] at h1; cases h1

abbrev Wk := List Tr × Bool × Bool × (List Nd × List Int) × List (List Int × Int) × Int × List Int × List Nd × Unit
theorem drop_at {α : Type} {N A B : List α} {k : Nat} {a : α} (h : N.drop k = a :: A ++ B) : ∃ hk : k < N.length, N[k] = a ∧ N.drop (k + 1) = A ++ B := by
  have hk : k < N.length := by
    rcases Nat.lt_or_ge k N.length with h1 | h1
    · exact h1
    · rw [List.drop_eq_nil_of_le h1] at h; cases h
  rw [List.drop_eq_getElem_cons hk, List.cons_append] at h
  injection h with h1 h2
  exact ⟨hk, h1, h2⟩
theorem drop_more {α : Type} {N A B : List α} {k : Nat} (h : N.drop k = A ++ B) : N.drop (k + A.length) = B := by
  rw [← List.drop_drop, h, List.drop_left]
end Go.Proofs.Pen

namespace Go.Proofs.Pen
open Go Go.Proofs
noncomputable def vec_Number.t (x : (Option Nat)) : T (Bool) := T.ret ((ford x (some (18442240474082181119 : Nat)) == some Ordering.gt || ford x (some (18442240474082181119 : Nat)) == some Ordering.eq) && (ford x (some (9218868437227405311 : Nat)) == some Ordering.lt || ford x (some (9218868437227405311 : Nat)) == some Ordering.eq))
noncomputable def vec_Number.q : List AV → T AV := entry [.flt] (outR [.bool]) vec_Number.t
theorem vec_Number.ok : FnOK Tryz.prog 91 vec_Number.q :=
  entry_in (ps := [.flt]) (rs := [.bool]) (F := ({ quiet := Xs, deep := noDeep } : Fns)) (D := D0) (S := tabS []) (t := vec_Number.t) mixed Xok (deep_none _) Tryz.func91 (by kernel_rfl) (sok_fn trivial) (by kernel_rfl) (fun x => by kernel_rfl)
end Go.Proofs.Pen

namespace Go.Proofs.Pen
open Go Go.Proofs
noncomputable def vec_Finite.t (x : (Option Nat × Option Nat × Option Nat)) : T (Bool) := T.ite ((ford x.1 (some (18442240474082181119 : Nat)) == some Ordering.gt || ford x.1 (some (18442240474082181119 : Nat)) == some Ordering.eq) && (ford x.1 (some (9218868437227405311 : Nat)) == some Ordering.lt || ford x.1 (some (9218868437227405311 : Nat)) == some Ordering.eq)) (T.ite ((ford x.2.1 (some (18442240474082181119 : Nat)) == some Ordering.gt || ford x.2.1 (some (18442240474082181119 : Nat)) == some Ordering.eq) && (ford x.2.1 (some (9218868437227405311 : Nat)) == some Ordering.lt || ford x.2.1 (some (9218868437227405311 : Nat)) == some Ordering.eq)) (T.ret ((ford x.2.2 (some (18442240474082181119 : Nat)) == some Ordering.gt || ford x.2.2 (some (18442240474082181119 : Nat)) == some Ordering.eq) && (ford x.2.2 (some (9218868437227405311 : Nat)) == some Ordering.lt || ford x.2.2 (some (9218868437227405311 : Nat)) == some Ordering.eq))) (T.ret false)) (T.ret false)
noncomputable def vec_Finite (x : (Option Nat × Option Nat × Option Nat)) : Option (Bool) := (vec_Finite.t x).run
noncomputable def vec_Finite.q : List AV → T AV := entry [TV] (outR [.bool]) fun x => .opt (vec_Finite x) .ret
theorem vec_Finite.ok : FnOK Tryz.prog 92 vec_Finite.q :=
  entry_call (ps := [TV]) (rs := [.bool]) (F := ({ quiet := (ext Xs 91 vec_Number.q), deep := noDeep } : Fns)) (D := D0) (S := tabS []) (t := vec_Finite.t) mixed (quiet_ext Xok vec_Number.ok) (deep_none _) Tryz.func92 (by kernel_rfl) (sok_fn trivial) (by kernel_rfl) (fun x => by kernel_rfl)
end Go.Proofs.Pen

namespace Go.Proofs.Pen
open Go Go.Proofs
noncomputable def box_Through_1.t (x : (Option Nat) × (Option Nat) × (Option Nat)) : T ((Option Nat)) := T.ret (fop BinOp.mul (fop BinOp.sub x.1 x.2.1) x.2.2)
noncomputable def box_Through_1.q : List AV → T AV := entry [.flt, (.ptr .flt), (.ptr .flt)] (outR [.flt]) box_Through_1.t
theorem box_Through_1.ok : FnOK Tryz.prog 212 box_Through_1.q :=
  entry_in (ps := [.flt, (.ptr .flt), (.ptr .flt)]) (rs := [.flt]) (F := ({ quiet := Xs, deep := noDeep } : Fns)) (D := D0) (S := tabS []) (t := box_Through_1.t) mixed Xok (deep_none _) Tryz.func212 (by kernel_rfl) (sok_fn trivial) (by kernel_rfl) (fun x => by kernel_rfl)
end Go.Proofs.Pen

namespace Go.Proofs.Pen
open Go Go.Proofs
def box_Through.L0 : List (Nat × Lay) := [(2, .box TBox), (3, .box TBox), (4, .val .flt), (5, .val .flt), (6, .val .bool), (7, .val .flt), (8, .val .flt), (27, .val TI)]
noncomputable def box_Through.t0 (x : ((Option Nat × Option Nat × Option Nat) × Option Nat × Option Nat × Option Nat) × ((Option Nat × Option Nat × Option Nat) × Option Nat × Option Nat × Option Nat) × (Option Nat) × (Option Nat) × Bool × (Option Nat) × (Option Nat) × Int × Unit) : T (Ex × ((Option Nat × Option Nat × Option Nat) × Option Nat × Option Nat × Option Nat) × ((Option Nat × Option Nat × Option Nat) × Option Nat × Option Nat × Option Nat) × (Option Nat) × (Option Nat) × Bool × (Option Nat) × (Option Nat) × Int × Unit) := T.ite (decide (x.2.2.2.2.2.2.2.1 < (3 : Int))) (T.opt (vec_Part (x.2.1.1, x.2.2.2.2.2.2.2.1)) fun y => T.opt (vec_Part (x.2.1.2, x.2.2.2.2.2.2.2.1)) fun y_1 => T.opt (vec_Part (x.1.1, x.2.2.2.2.2.2.2.1)) fun y_2 => T.opt (vec_Part (x.1.2, x.2.2.2.2.2.2.2.1)) fun y_3 => T.ite (ford y_1 (some (0 : Nat)) == some Ordering.eq) (T.ite (!((ford y_2 y == some Ordering.lt || ford y_2 y == some Ordering.eq) && (ford y y_3 == some Ordering.lt || ford y y_3 == some Ordering.eq))) (T.ret (Ex.ret, x.1, x.2.1, some (0 : Nat), some (0 : Nat), false, x.2.2.2.2.2.1, x.2.2.2.2.2.2.1, x.2.2.2.2.2.2.2.1, ())) (T.ret (Ex.normal, x.1, x.2.1, x.2.2.1, x.2.2.2.1, x.2.2.2.2.1, x.2.2.2.2.2.1, x.2.2.2.2.2.2.1, W (x.2.2.2.2.2.2.2.1 + (1 : Int)), ()))) (T.ite (ford (fop BinOp.quo (some (4607182418800017408 : Nat)) y_1) (some (0 : Nat)) == some Ordering.lt) (T.opt (box_more (x.2.2.2.2.2.1, fop BinOp.mul (fop BinOp.sub y_3 y) (fop BinOp.quo (some (4607182418800017408 : Nat)) y_1))) fun y_4 => T.opt (box_less (x.2.2.2.2.2.2.1, fop BinOp.mul (fop BinOp.sub y_2 y) (fop BinOp.quo (some (4607182418800017408 : Nat)) y_1))) fun y => T.ret (Ex.normal, x.1, x.2.1, x.2.2.1, x.2.2.2.1, x.2.2.2.2.1, y_4, y, W (x.2.2.2.2.2.2.2.1 + (1 : Int)), ())) (T.opt (box_more (x.2.2.2.2.2.1, fop BinOp.mul (fop BinOp.sub y_2 y) (fop BinOp.quo (some (4607182418800017408 : Nat)) y_1))) fun y_4 => T.opt (box_less (x.2.2.2.2.2.2.1, fop BinOp.mul (fop BinOp.sub y_3 y) (fop BinOp.quo (some (4607182418800017408 : Nat)) y_1))) fun y => T.ret (Ex.normal, x.1, x.2.1, x.2.2.1, x.2.2.2.1, x.2.2.2.2.1, y_4, y, W (x.2.2.2.2.2.2.2.1 + (1 : Int)), ())))) (T.ret (Ex.exit (0 : Nat), x.1, x.2.1, x.2.2.1, x.2.2.2.1, x.2.2.2.2.1, x.2.2.2.2.2.1, x.2.2.2.2.2.2.1, x.2.2.2.2.2.2.2.1, ()))
noncomputable def box_Through.l0 (x : ((Option Nat × Option Nat × Option Nat) × Option Nat × Option Nat × Option Nat) × ((Option Nat × Option Nat × Option Nat) × Option Nat × Option Nat × Option Nat) × (Option Nat) × (Option Nat) × Bool × (Option Nat) × (Option Nat) × Int × Unit) : Option (Ex × ((Option Nat × Option Nat × Option Nat) × Option Nat × Option Nat × Option Nat) × ((Option Nat × Option Nat × Option Nat) × Option Nat × Option Nat × Option Nat) × (Option Nat) × (Option Nat) × Bool × (Option Nat) × (Option Nat) × Int × Unit) := (iterT box_Through.t0 rounds x).run
theorem box_Through.k0 : bodies 0 (lp Tryz.f176 []) = [.loop (loopIn 0 (lp Tryz.f176 []))] ∧ WP Tryz.prog 0 (.block 0 (.loop (loopIn 0 (lp Tryz.f176 [])))) (loopS box_Through.L0 81 0 [.exit 0, .ret] box_Through.l0) :=
  loop_tree (L := box_Through.L0) (F := ({ quiet := (ext (ext (ext (ext (ext (ext Xs 92 vec_Finite.q) 71 math_Inf.q) 105 vec_Part.q) 212 box_Through_1.q) 196 box_more.q) 195 box_less.q), deep := noDeep } : Fns)) (D := D0) (tab := []) (t := box_Through.t0) mixed (quiet_ext (quiet_ext (quiet_ext (quiet_ext (quiet_ext (quiet_ext Xok vec_Finite.ok) math_Inf.ok) vec_Part.ok) box_Through_1.ok) box_more.ok) box_less.ok) (deep_none _) (fun _ => rfl) (by kernel_rfl) (by kernel_rfl) trivial (fun x => by kernel_rfl)
noncomputable def box_Through.t (x : ((Option Nat × Option Nat × Option Nat) × Option Nat × Option Nat × Option Nat) × ((Option Nat × Option Nat × Option Nat) × Option Nat × Option Nat × Option Nat)) : T ((Option Nat) × (Option Nat) × Bool) := T.opt (vec_Finite x.2.1) fun y => T.ite (!y) (T.ret (some (0 : Nat), some (0 : Nat), false)) (T.opt (vec_Finite x.2.2) fun y => T.ite (!y) (T.ret (some (0 : Nat), some (0 : Nat), false)) (T.opt (math_Inf (1 : Int)) fun y => T.opt (box_Through.l0 (x.1, x.2, some (0 : Nat), some (0 : Nat), false, some (0 : Nat), y, (0 : Int), ())) fun y => T.ite (exEq y.1 (Ex.exit (0 : Nat))) (T.ite (!(ford y.2.2.2.2.2.2.1 y.2.2.2.2.2.2.2.1 == some Ordering.lt || ford y.2.2.2.2.2.2.1 y.2.2.2.2.2.2.2.1 == some Ordering.eq)) (T.ret (some (0 : Nat), some (0 : Nat), false)) (T.ret (y.2.2.2.2.2.2.1, y.2.2.2.2.2.2.2.1, true))) (T.ite (exEq y.1 Ex.ret) (T.ret (y.2.2.2.1, y.2.2.2.2.1, y.2.2.2.2.2.1)) T.fail)))
noncomputable def box_Through (x : ((Option Nat × Option Nat × Option Nat) × Option Nat × Option Nat × Option Nat) × ((Option Nat × Option Nat × Option Nat) × Option Nat × Option Nat × Option Nat)) : Option ((Option Nat) × (Option Nat) × Bool) := (box_Through.t x).run
noncomputable def box_Through.q : List AV → T AV := entry [TBox, TBox] (outR [.flt, .flt, .bool]) fun x => .opt (box_Through x) .ret
theorem box_Through.ok : FnOK Tryz.prog 176 box_Through.q :=
  entry_call (ps := [TBox, TBox]) (rs := [.flt, .flt, .bool]) (F := ({ quiet := (ext (ext (ext (ext (ext (ext Xs 92 vec_Finite.q) 71 math_Inf.q) 105 vec_Part.q) 212 box_Through_1.q) 196 box_more.q) 195 box_less.q), deep := noDeep } : Fns)) (D := D0) (S := tabS [(0, loopS box_Through.L0 81 0 [.exit 0, .ret] box_Through.l0)]) (t := box_Through.t) mixed (quiet_ext (quiet_ext (quiet_ext (quiet_ext (quiet_ext (quiet_ext Xok vec_Finite.ok) math_Inf.ok) vec_Part.ok) box_Through_1.ok) box_more.ok) box_less.ok) (deep_none _) Tryz.func176 (by kernel_rfl) (sok_fn ⟨box_Through.k0, trivial⟩) (by kernel_rfl) (fun x => by kernel_rfl)
end Go.Proofs.Pen

namespace Go.Proofs.Pen
open Go Go.Proofs
noncomputable def tri_Better.t (x : (Int × Option Nat × Option Nat × Option Nat) × (Int × Option Nat × Option Nat × Option Nat)) : T (Bool) := T.ite (x.1.1 == x.2.1 && (ford x.1.2.1 x.2.2.1 == some Ordering.eq && (ford x.1.2.2.1 x.2.2.2.1 == some Ordering.eq && ford x.1.2.2.2 x.2.2.2.2 == some Ordering.eq)) || decide (x.1.1 < (0 : Int))) (T.ret false) (T.ite (decide (x.2.1 < (0 : Int))) (T.ret true) (T.ret (ford x.1.2.1 x.2.2.1 == some Ordering.lt || ford x.1.2.1 x.2.2.1 == some Ordering.eq && decide (x.1.1 < x.2.1))))
noncomputable def tri_Better (x : (Int × Option Nat × Option Nat × Option Nat) × (Int × Option Nat × Option Nat × Option Nat)) : Option (Bool) := (tri_Better.t x).run
noncomputable def tri_Better.q : List AV → T AV := entry [THit, THit] (outR [.bool]) fun x => .opt (tri_Better x) .ret
theorem tri_Better.ok : FnOK Tryz.prog 69 tri_Better.q :=
  entry_call (ps := [THit, THit]) (rs := [.bool]) (F := ({ quiet := Xs, deep := noDeep } : Fns)) (D := D0) (S := tabS []) (t := tri_Better.t) mixed Xok (deep_none _) Tryz.func69 (by kernel_rfl) (sok_fn trivial) (by kernel_rfl) (fun x => by kernel_rfl)
end Go.Proofs.Pen

namespace Go.Proofs.Pen
open Go Go.Proofs
def slices_Index.L0 : List (Nat × Lay) := [(0, .val (.sl TI)), (1, .val TI), (4, .val TI), (7, .val TI), (8, .val TI)]
noncomputable def slices_Index.t0 (x : (List (Int)) × Int × Int × Int × Int × Unit) : T (Ex × (List (Int)) × Int × Int × Int × Int × Unit) := T.ite (decide (x.2.2.2.2.1 < x.2.2.2.1)) (T.opt (lget x.1 x.2.2.2.2.1) fun y => T.ite (x.2.1 == y) (T.ret (Ex.ret, x.1, x.2.1, x.2.2.2.2.1, x.2.2.2.1, x.2.2.2.2.1, ())) (T.ret (Ex.normal, x.1, x.2.1, x.2.2.1, x.2.2.2.1, W (x.2.2.2.2.1 + (1 : Int)), ()))) (T.ret (Ex.exit (0 : Nat), x.1, x.2.1, x.2.2.1, x.2.2.2.1, x.2.2.2.2.1, ()))
noncomputable def slices_Index.l0 (x : (List (Int)) × Int × Int × Int × Int × Unit) : Option (Ex × (List (Int)) × Int × Int × Int × Int × Unit) := (iterT slices_Index.t0 rounds x).run
theorem slices_Index.k0 : bodies 0 (lp Tryz.f175 []) = [.loop (loopIn 0 (lp Tryz.f175 []))] ∧ WP Tryz.prog 0 (.block 0 (.loop (loopIn 0 (lp Tryz.f175 [])))) (loopS slices_Index.L0 19 0 [.exit 0, .ret] slices_Index.l0) :=
  loop_tree (L := slices_Index.L0) (F := ({ quiet := Xs, deep := noDeep } : Fns)) (D := D0) (tab := []) (t := slices_Index.t0) mixed Xok (deep_none _) (fun _ => rfl) (by kernel_rfl) (by kernel_rfl) trivial (fun x => by kernel_rfl)
noncomputable def slices_Index.t (x : (List (Int)) × Int) : T (Int) := T.opt (slices_Index.l0 (x.1, x.2, (0 : Int), (↑(List.length x.1) : Int), (0 : Int), ())) fun y => T.ite (exEq y.1 (Ex.exit (0 : Nat))) (T.ret (-1 : Int)) (T.ite (exEq y.1 Ex.ret) (T.ret y.2.2.2.1) T.fail)
noncomputable def slices_Index (x : (List (Int)) × Int) : Option (Int) := (slices_Index.t x).run
noncomputable def slices_Index.q : List AV → T AV := entry [(.sl TI), TI] (outR [TI]) fun x => .opt (slices_Index x) .ret
theorem slices_Index.ok : FnOK Tryz.prog 175 slices_Index.q :=
  entry_call (ps := [(.sl TI), TI]) (rs := [TI]) (F := ({ quiet := Xs, deep := noDeep } : Fns)) (D := D0) (S := tabS [(0, loopS slices_Index.L0 19 0 [.exit 0, .ret] slices_Index.l0)]) (t := slices_Index.t) mixed Xok (deep_none _) Tryz.func175 (by kernel_rfl) (sok_fn ⟨slices_Index.k0, trivial⟩) (by kernel_rfl) (fun x => by kernel_rfl)
end Go.Proofs.Pen

namespace Go.Proofs.Pen
open Go Go.Proofs
noncomputable def slices_Contains.t (x : (List (Int)) × Int) : T (Bool) := T.opt (slices_Index x) fun y => T.ret (decide (y ≥ (0 : Int)))
noncomputable def slices_Contains (x : (List (Int)) × Int) : Option (Bool) := (slices_Contains.t x).run
noncomputable def slices_Contains.q : List AV → T AV := entry [(.sl TI), TI] (outR [.bool]) fun x => .opt (slices_Contains x) .ret
theorem slices_Contains.ok : FnOK Tryz.prog 124 slices_Contains.q :=
  entry_call (ps := [(.sl TI), TI]) (rs := [.bool]) (F := ({ quiet := (ext Xs 175 slices_Index.q), deep := noDeep } : Fns)) (D := D0) (S := tabS []) (t := slices_Contains.t) mixed (quiet_ext Xok slices_Index.ok) (deep_none _) Tryz.func124 (by kernel_rfl) (sok_fn trivial) (by kernel_rfl) (fun x => by kernel_rfl)
end Go.Proofs.Pen

namespace Go.Proofs.Pen
open Go Go.Proofs
noncomputable def hit_none.t (_ : Unit) : T ((Int × Option Nat × Option Nat × Option Nat)) := T.ret ((-1 : Int), some (0 : Nat), some (0 : Nat), some (0 : Nat))
noncomputable def hit_none.q : List AV → T AV := entry [] (outR [THit]) hit_none.t
theorem hit_none.ok : FnOK Tryz.prog 65 hit_none.q :=
  entry_in (ps := []) (rs := [THit]) (F := ({ quiet := Xs, deep := noDeep } : Fns)) (D := D0) (S := tabS []) (t := hit_none.t) mixed Xok (deep_none _) Tryz.func65 (by kernel_rfl) (sok_fn trivial) (by kernel_rfl) (fun x => by kernel_rfl)
end Go.Proofs.Pen

namespace Go.Proofs.Pen
open Go Go.Proofs
noncomputable def tri_none.t (_ : Unit) : T ((Int × Option Nat × Option Nat × Option Nat)) := T.ret ((-1 : Int), some (0 : Nat), some (0 : Nat), some (0 : Nat))
noncomputable def tri_none.q : List AV → T AV := entry [] (outR [THit]) tri_none.t
theorem tri_none.ok : FnOK Tryz.prog 177 tri_none.q :=
  entry_in (ps := []) (rs := [THit]) (F := ({ quiet := Xs, deep := noDeep } : Fns)) (D := D0) (S := tabS []) (t := tri_none.t) mixed Xok (deep_none _) Tryz.func177 (by kernel_rfl) (sok_fn trivial) (by kernel_rfl) (fun x => by kernel_rfl)
end Go.Proofs.Pen

namespace Go.Proofs.Pen
open Go Go.Proofs
noncomputable def tri_Edges.t (x : ((Option Nat × Option Nat × Option Nat) × (Option Nat × Option Nat × Option Nat) × Option Nat × Option Nat × Option Nat)) : T ((Option Nat × Option Nat × Option Nat) × (Option Nat × Option Nat × Option Nat)) := T.opt (vec_Sub (x.2.1, x.1)) fun y => T.opt (vec_Sub (x.2.2, x.1)) fun y_1 => T.ret (y, y_1)
noncomputable def tri_Edges (x : ((Option Nat × Option Nat × Option Nat) × (Option Nat × Option Nat × Option Nat) × Option Nat × Option Nat × Option Nat)) : Option ((Option Nat × Option Nat × Option Nat) × (Option Nat × Option Nat × Option Nat)) := (tri_Edges.t x).run
noncomputable def tri_Edges.q : List AV → T AV := entry [TTri] (outR [TV, TV]) fun x => .opt (tri_Edges x) .ret
theorem tri_Edges.ok : FnOK Tryz.prog 149 tri_Edges.q :=
  entry_call (ps := [TTri]) (rs := [TV, TV]) (F := ({ quiet := (ext (ext Xs 94 vec_Sub.q) 151 vec_Sub_1.q), deep := noDeep } : Fns)) (D := D0) (S := tabS []) (t := tri_Edges.t) mixed (quiet_ext (quiet_ext Xok vec_Sub.ok) vec_Sub_1.ok) (deep_none _) Tryz.func149 (by kernel_rfl) (sok_fn trivial) (by kernel_rfl) (fun x => by kernel_rfl)
end Go.Proofs.Pen

namespace Go.Proofs.Pen
open Go Go.Proofs
noncomputable def vec_Cross.t (x : (Option Nat × Option Nat × Option Nat) × (Option Nat × Option Nat × Option Nat)) : T ((Option Nat × Option Nat × Option Nat)) := T.opt (vec_Sub ((fop BinOp.mul x.1.2.1 x.2.2.2, fop BinOp.mul x.1.2.2 x.2.1, fop BinOp.mul x.1.1 x.2.2.1), fop BinOp.mul x.1.2.2 x.2.2.1, fop BinOp.mul x.1.1 x.2.2.2, fop BinOp.mul x.1.2.1 x.2.1)) fun y => T.ret y
noncomputable def vec_Cross (x : (Option Nat × Option Nat × Option Nat) × (Option Nat × Option Nat × Option Nat)) : Option ((Option Nat × Option Nat × Option Nat)) := (vec_Cross.t x).run
noncomputable def vec_Cross.q : List AV → T AV := entry [TV, TV] (outR [TV]) fun x => .opt (vec_Cross x) .ret
theorem vec_Cross.ok : FnOK Tryz.prog 95 vec_Cross.q :=
  entry_call (ps := [TV, TV]) (rs := [TV]) (F := ({ quiet := (ext (ext (ext (ext Xs 152 vec_Mul.q) 94 vec_Sub.q) 151 vec_Sub_1.q) 192 vec_Mul_1.q), deep := noDeep } : Fns)) (D := D0) (S := tabS []) (t := vec_Cross.t) mixed (quiet_ext (quiet_ext (quiet_ext (quiet_ext Xok vec_Mul.ok) vec_Sub.ok) vec_Sub_1.ok) vec_Mul_1.ok) (deep_none _) Tryz.func95 (by kernel_rfl) (sok_fn trivial) (by kernel_rfl) (fun x => by kernel_rfl)
end Go.Proofs.Pen

namespace Go.Proofs.Pen
open Go Go.Proofs
noncomputable def vec_Dot.t (x : (Option Nat × Option Nat × Option Nat) × (Option Nat × Option Nat × Option Nat)) : T ((Option Nat)) := T.ret (fop BinOp.add (fop BinOp.add (fop BinOp.mul x.1.1 x.2.1) (fop BinOp.mul x.1.2.1 x.2.2.1)) (fop BinOp.mul x.1.2.2 x.2.2.2))
noncomputable def vec_Dot (x : (Option Nat × Option Nat × Option Nat) × (Option Nat × Option Nat × Option Nat)) : Option ((Option Nat)) := (vec_Dot.t x).run
noncomputable def vec_Dot.q : List AV → T AV := entry [TV, TV] (outR [.flt]) fun x => .opt (vec_Dot x) .ret
theorem vec_Dot.ok : FnOK Tryz.prog 178 vec_Dot.q :=
  entry_call (ps := [TV, TV]) (rs := [.flt]) (F := ({ quiet := (ext (ext Xs 152 vec_Mul.q) 192 vec_Mul_1.q), deep := noDeep } : Fns)) (D := D0) (S := tabS []) (t := vec_Dot.t) mixed (quiet_ext (quiet_ext Xok vec_Mul.ok) vec_Mul_1.ok) (deep_none _) Tryz.func178 (by kernel_rfl) (sok_fn trivial) (by kernel_rfl) (fun x => by kernel_rfl)
end Go.Proofs.Pen

namespace Go.Proofs.Pen
open Go Go.Proofs
noncomputable def tri_Meet_1.t (x : (Option Nat × Option Nat × Option Nat) × (Option Nat × Option Nat × Option Nat) × (Option Nat)) : T ((Option Nat)) := T.opt (vec_Dot (x.1, x.2.1)) fun y => T.ret (fop BinOp.mul y x.2.2)
noncomputable def tri_Meet_1 (x : (Option Nat × Option Nat × Option Nat) × (Option Nat × Option Nat × Option Nat) × (Option Nat)) : Option ((Option Nat)) := (tri_Meet_1.t x).run
noncomputable def tri_Meet_1.q : List AV → T AV := entry [TV, TV, (.ptr .flt)] (outR [.flt]) fun x => .opt (tri_Meet_1 x) .ret
theorem tri_Meet_1.ok : FnOK Tryz.prog 179 tri_Meet_1.q :=
  entry_call (ps := [TV, TV, (.ptr .flt)]) (rs := [.flt]) (F := ({ quiet := (ext (ext Xs 178 vec_Dot.q) 192 vec_Mul_1.q), deep := noDeep } : Fns)) (D := D0) (S := tabS []) (t := tri_Meet_1.t) mixed (quiet_ext (quiet_ext Xok vec_Dot.ok) vec_Mul_1.ok) (deep_none _) Tryz.func179 (by kernel_rfl) (sok_fn trivial) (by kernel_rfl) (fun x => by kernel_rfl)
end Go.Proofs.Pen

namespace Go.Proofs.Pen
open Go Go.Proofs
noncomputable def tri_Meet.t (x : ((Option Nat × Option Nat × Option Nat) × (Option Nat × Option Nat × Option Nat) × Option Nat × Option Nat × Option Nat) × ((Option Nat × Option Nat × Option Nat) × Option Nat × Option Nat × Option Nat)) : T ((Int × Option Nat × Option Nat × Option Nat) × Bool) := T.opt (box_Of x.1) fun y => T.opt (box_Through (y, x.2)) fun y => T.ite (!y.2.2) (T.ret (((-1 : Int), some (0 : Nat), some (0 : Nat), some (0 : Nat)), false)) (T.opt (tri_Edges x.1) fun y_1 => T.opt (vec_Cross (x.2.2, y_1.snd)) fun y_2 => T.opt (vec_Dot (y_1.fst, y_2)) fun y_3 => T.ite (ford y_3 (some (0 : Nat)) == some Ordering.eq || ford y_3 y_3 != some Ordering.eq) (T.ret (((-1 : Int), some (0 : Nat), some (0 : Nat), some (0 : Nat)), false)) (T.opt (vec_Sub (x.2.1, x.1.1)) fun y_4 => T.opt (vec_Cross (y_4, y_1.fst)) fun y_5 => T.opt (tri_Meet_1 (y_1.snd, y_5, fop BinOp.quo (some (4607182418800017408 : Nat)) y_3)) fun y_6 => T.opt (tri_Meet_1 (y_4, y_2, fop BinOp.quo (some (4607182418800017408 : Nat)) y_3)) fun y_7 => T.opt (tri_Meet_1 (x.2.2, y_5, fop BinOp.quo (some (4607182418800017408 : Nat)) y_3)) fun y_8 => T.ite (!((ford y_7 (some (0 : Nat)) == some Ordering.gt || ford y_7 (some (0 : Nat)) == some Ordering.eq) && (ford y_7 (some (4607182418800017408 : Nat)) == some Ordering.lt || ford y_7 (some (4607182418800017408 : Nat)) == some Ordering.eq) && (ford y_8 (some (0 : Nat)) == some Ordering.gt || ford y_8 (some (0 : Nat)) == some Ordering.eq) && (ford (fop BinOp.add y_7 y_8) (some (4607182418800017408 : Nat)) == some Ordering.lt || ford (fop BinOp.add y_7 y_8) (some (4607182418800017408 : Nat)) == some Ordering.eq)) || !((ford y_6 y.1 == some Ordering.gt || ford y_6 y.1 == some Ordering.eq) && (ford y_6 y.2.1 == some Ordering.lt || ford y_6 y.2.1 == some Ordering.eq) && ford y_6 (some (0 : Nat)) == some Ordering.gt)) (T.ret (((-1 : Int), some (0 : Nat), some (0 : Nat), some (0 : Nat)), false)) (T.ret (((0 : Int), y_6, y_7, y_8), true))))
noncomputable def tri_Meet (x : ((Option Nat × Option Nat × Option Nat) × (Option Nat × Option Nat × Option Nat) × Option Nat × Option Nat × Option Nat) × ((Option Nat × Option Nat × Option Nat) × Option Nat × Option Nat × Option Nat)) : Option ((Int × Option Nat × Option Nat × Option Nat) × Bool) := (tri_Meet.t x).run
noncomputable def tri_Meet.q : List AV → T AV := entry [TTri, TBox] (outR [THit, .bool]) fun x => .opt (tri_Meet x) .ret
theorem tri_Meet.ok : FnOK Tryz.prog 125 tri_Meet.q :=
  entry_call (ps := [TTri, TBox]) (rs := [THit, .bool]) (F := ({ quiet := (ext (ext (ext (ext (ext (ext (ext (ext (ext (ext (ext Xs 47 box_Of.q) 176 box_Through.q) 177 tri_none.q) 149 tri_Edges.q) 95 vec_Cross.q) 178 vec_Dot.q) 179 tri_Meet_1.q) 94 vec_Sub.q) 151 vec_Sub_1.q) 192 vec_Mul_1.q) 212 box_Through_1.q), deep := noDeep } : Fns)) (D := D0) (S := tabS []) (t := tri_Meet.t) mixed (quiet_ext (quiet_ext (quiet_ext (quiet_ext (quiet_ext (quiet_ext (quiet_ext (quiet_ext (quiet_ext (quiet_ext (quiet_ext Xok box_Of.ok) box_Through.ok) tri_none.ok) tri_Edges.ok) vec_Cross.ok) vec_Dot.ok) tri_Meet_1.ok) vec_Sub.ok) vec_Sub_1.ok) vec_Mul_1.ok) box_Through_1.ok) (deep_none _) Tryz.func125 (by kernel_rfl) (sok_fn trivial) (by kernel_rfl) (fun x => by kernel_rfl)
end Go.Proofs.Pen

namespace Go.Proofs.Pen
open Go Go.Proofs
noncomputable def hit_asker_1.t (x : Int × (List ((Option Nat × Option Nat × Option Nat) × (Option Nat × Option Nat × Option Nat) × Option Nat × Option Nat × Option Nat)) × (List (Int)) × ((Option Nat × Option Nat × Option Nat) × Option Nat × Option Nat × Option Nat)) : T ((Int × Option Nat × Option Nat × Option Nat)) := T.ite (decide (x.1 < (0 : Int)) || decide (x.1 ≥ (↑(List.length x.2.1) : Int))) (T.ret ((-1 : Int), some (0 : Nat), some (0 : Nat), some (0 : Nat))) (T.opt (slices_Contains (x.2.2.1, x.1)) fun y => T.ite y (T.ret ((-1 : Int), some (0 : Nat), some (0 : Nat), some (0 : Nat))) (T.opt (lget x.2.1 x.1) fun y => T.opt (tri_Meet (y, x.2.2.2)) fun y => T.ite y.2 (T.ret (x.1, y.1.2)) (T.ret y.1)))
noncomputable def hit_asker_1 (x : Int × (List ((Option Nat × Option Nat × Option Nat) × (Option Nat × Option Nat × Option Nat) × Option Nat × Option Nat × Option Nat)) × (List (Int)) × ((Option Nat × Option Nat × Option Nat) × Option Nat × Option Nat × Option Nat)) : Option ((Int × Option Nat × Option Nat × Option Nat)) := (hit_asker_1.t x).run
noncomputable def hit_asker_1.q : List AV → T AV := entry [TI, (.ptr (.sl TTri)), (.ptr (.sl TI)), (.ptr TBox)] (outR [THit]) fun x => .opt (hit_asker_1 x) .ret
theorem hit_asker_1.ok : FnOK Tryz.prog 123 hit_asker_1.q :=
  entry_call (ps := [TI, (.ptr (.sl TTri)), (.ptr (.sl TI)), (.ptr TBox)]) (rs := [THit]) (F := ({ quiet := (ext (ext (ext (ext (ext (ext (ext Xs 124 slices_Contains.q) 65 hit_none.q) 125 tri_Meet.q) 151 vec_Sub_1.q) 179 tri_Meet_1.q) 192 vec_Mul_1.q) 212 box_Through_1.q), deep := noDeep } : Fns)) (D := D0) (S := tabS []) (t := hit_asker_1.t) mixed (quiet_ext (quiet_ext (quiet_ext (quiet_ext (quiet_ext (quiet_ext (quiet_ext Xok slices_Contains.ok) hit_none.ok) tri_Meet.ok) vec_Sub_1.ok) tri_Meet_1.ok) vec_Mul_1.ok) box_Through_1.ok) (deep_none _) Tryz.func123 (by kernel_rfl) (sok_fn trivial) (by kernel_rfl) (fun x => by kernel_rfl)
end Go.Proofs.Pen

namespace Go.Proofs.Pen
open Go Go.Proofs
noncomputable def eachFirst.deeps : Deeps := { D := [126, 127, 68], C := [], frz := false, S := fun _ _ => noS }
theorem eachFirst.deepsOk : LoopsOK Tryz.prog eachFirst.deeps.S := (loops_none _)
def eachFirst.L2 : List (Nat × Lay) := [(9000, .bdead 0), (9001, .blk 1 THit), (9002, .blk 2 THit), (9003, .blk 3 (.clo 123 (.pair (.ptr (.sl TTri)) (.pair (.ptr (.sl TI)) (.ptr TBox))))), (0, .val (.ptr TTree)), (2, .clo 68 [3, 2]), (7, .obx [.dat (.ptr TTree), .dat TBox, .own TI]), (8, .val .flt), (9, .val .bool), (10, .val TI), (11, .box TNode), (13, .val TI)]
noncomputable def eachFirst.t2 (x : (Int × Option Nat × Option Nat × Option Nat) × (Int × Option Nat × Option Nat × Option Nat) × ((List ((Option Nat × Option Nat × Option Nat) × (Option Nat × Option Nat × Option Nat) × Option Nat × Option Nat × Option Nat)) × List (Int) × (Option Nat × Option Nat × Option Nat) × Option Nat × Option Nat × Option Nat) × ((List (((Option Nat × Option Nat × Option Nat) × Option Nat × Option Nat × Option Nat) × Int × Int × Int × Int)) × List (Int)) × (((List (((Option Nat × Option Nat × Option Nat) × Option Nat × Option Nat × Option Nat) × Int × Int × Int × Int)) × List (Int)) × ((Option Nat × Option Nat × Option Nat) × Option Nat × Option Nat × Option Nat) × List Int × Unit) × (Option Nat) × Bool × Int × (((Option Nat × Option Nat × Option Nat) × Option Nat × Option Nat × Option Nat) × Int × Int × Int × Int) × Int × Unit) : T (Ex × (Int × Option Nat × Option Nat × Option Nat) × (Int × Option Nat × Option Nat × Option Nat) × ((List ((Option Nat × Option Nat × Option Nat) × (Option Nat × Option Nat × Option Nat) × Option Nat × Option Nat × Option Nat)) × List (Int) × (Option Nat × Option Nat × Option Nat) × Option Nat × Option Nat × Option Nat) × ((List (((Option Nat × Option Nat × Option Nat) × Option Nat × Option Nat × Option Nat) × Int × Int × Int × Int)) × List (Int)) × (((List (((Option Nat × Option Nat × Option Nat) × Option Nat × Option Nat × Option Nat) × Int × Int × Int × Int)) × List (Int)) × ((Option Nat × Option Nat × Option Nat) × Option Nat × Option Nat × Option Nat) × List Int × Unit) × (Option Nat) × Bool × Int × (((Option Nat × Option Nat × Option Nat) × Option Nat × Option Nat × Option Nat) × Int × Int × Int × Int) × Int × Unit) := T.ite (decide (x.2.2.2.2.2.2.2.2.2.1 < x.2.2.2.2.2.2.2.2.1.2.2.2.2)) (T.opt (bvh_Tree_Tri (x.2.2.2.1, x.2.2.2.2.2.2.2.2.2.1)) fun y => T.opt (hit_asker_1 (y, x.2.2.1)) fun y => T.opt (tri_Better (y, x.2.1)) fun y_1 => T.ite (!y_1) (T.ret (Ex.normal, x.1, x.2.1, x.2.2.1, x.2.2.2.1, (x.2.2.2.2.1.1, x.2.2.2.2.1.2.1, List.take x.2.2.2.2.1.2.2.1.length x.2.2.2.2.1.2.2.1, ()), x.2.2.2.2.2.1, x.2.2.2.2.2.2.1, x.2.2.2.2.2.2.2.1, x.2.2.2.2.2.2.2.2.1, W (x.2.2.2.2.2.2.2.2.2.1 + (1 : Int)), ())) (T.ret (Ex.normal, x.1, y, x.2.2.1, x.2.2.2.1, (x.2.2.2.2.1.1, x.2.2.2.2.1.2.1, List.take x.2.2.2.2.1.2.2.1.length x.2.2.2.2.1.2.2.1, ()), y.2.1, true, x.2.2.2.2.2.2.2.1, x.2.2.2.2.2.2.2.2.1, W (x.2.2.2.2.2.2.2.2.2.1 + (1 : Int)), ()))) (T.ret (Ex.exit (2 : Nat), x.1, x.2.1, x.2.2.1, x.2.2.2.1, (x.2.2.2.2.1.1, x.2.2.2.2.1.2.1, List.take x.2.2.2.2.1.2.2.1.length x.2.2.2.2.1.2.2.1, ()), x.2.2.2.2.2.1, x.2.2.2.2.2.2.1, x.2.2.2.2.2.2.2.1, x.2.2.2.2.2.2.2.2.1, x.2.2.2.2.2.2.2.2.2.1, ()))
noncomputable def eachFirst.l2 (x : (Int × Option Nat × Option Nat × Option Nat) × (Int × Option Nat × Option Nat × Option Nat) × ((List ((Option Nat × Option Nat × Option Nat) × (Option Nat × Option Nat × Option Nat) × Option Nat × Option Nat × Option Nat)) × List (Int) × (Option Nat × Option Nat × Option Nat) × Option Nat × Option Nat × Option Nat) × ((List (((Option Nat × Option Nat × Option Nat) × Option Nat × Option Nat × Option Nat) × Int × Int × Int × Int)) × List (Int)) × (((List (((Option Nat × Option Nat × Option Nat) × Option Nat × Option Nat × Option Nat) × Int × Int × Int × Int)) × List (Int)) × ((Option Nat × Option Nat × Option Nat) × Option Nat × Option Nat × Option Nat) × List Int × Unit) × (Option Nat) × Bool × Int × (((Option Nat × Option Nat × Option Nat) × Option Nat × Option Nat × Option Nat) × Int × Int × Int × Int) × Int × Unit) : Option (Ex × (Int × Option Nat × Option Nat × Option Nat) × (Int × Option Nat × Option Nat × Option Nat) × ((List ((Option Nat × Option Nat × Option Nat) × (Option Nat × Option Nat × Option Nat) × Option Nat × Option Nat × Option Nat)) × List (Int) × (Option Nat × Option Nat × Option Nat) × Option Nat × Option Nat × Option Nat) × ((List (((Option Nat × Option Nat × Option Nat) × Option Nat × Option Nat × Option Nat) × Int × Int × Int × Int)) × List (Int)) × (((List (((Option Nat × Option Nat × Option Nat) × Option Nat × Option Nat × Option Nat) × Int × Int × Int × Int)) × List (Int)) × ((Option Nat × Option Nat × Option Nat) × Option Nat × Option Nat × Option Nat) × List Int × Unit) × (Option Nat) × Bool × Int × (((Option Nat × Option Nat × Option Nat) × Option Nat × Option Nat × Option Nat) × Int × Int × Int × Int) × Int × Unit) := (iterT eachFirst.t2 rounds x).run
theorem eachFirst.k2 : bodies 2 (lp Tryz.f67 [0]) = [.loop (loopIn 2 (lp Tryz.f67 [0]))] ∧ WP Tryz.prog 4 (.block 2 (.loop (loopIn 2 (lp Tryz.f67 [0])))) (loopS eachFirst.L2 71 2 [.exit 2] eachFirst.l2) :=
  loop_treeN 4 (L := eachFirst.L2) (F := (dp Tryz.prog (ext (ext (ext (ext (ext (ext (ext Xs 51 bvh_Tree_Tri.q) 13 bvh_Tree_Node.q) 176 box_Through.q) 69 tri_Better.q) 123 hit_asker_1.q) 65 hit_none.q) 212 box_Through_1.q) eachFirst.deeps 100 8)) (D := (inL eachFirst.deeps.D)) (tab := []) (t := eachFirst.t2) mixed (dp_ok mixed (quiet_ext (quiet_ext (quiet_ext (quiet_ext (quiet_ext (quiet_ext (quiet_ext Xok bvh_Tree_Tri.ok) bvh_Tree_Node.ok) box_Through.ok) tri_Better.ok) hit_asker_1.ok) hit_none.ok) box_Through_1.ok) eachFirst.deepsOk 100 8).1 (dp_ok mixed (quiet_ext (quiet_ext (quiet_ext (quiet_ext (quiet_ext (quiet_ext (quiet_ext Xok bvh_Tree_Tri.ok) bvh_Tree_Node.ok) box_Through.ok) tri_Better.ok) hit_asker_1.ok) hit_none.ok) box_Through_1.ok) eachFirst.deepsOk 100 8).2 (fun _ => rfl) (by kernel_rfl) (by kernel_rfl) trivial (fun x => by kernel_rfl)
def eachFirst.L0 : List (Nat × Lay) := [(9000, .bdead 0), (9001, .blk 1 THit), (9002, .blk 2 THit), (9003, .blk 3 (.clo 123 (.pair (.ptr (.sl TTri)) (.pair (.ptr (.sl TI)) (.ptr TBox))))), (0, .val (.ptr TTree)), (2, .clo 68 [3, 2]), (7, .obx [.dat (.ptr TTree), .dat TBox, .own TI]), (8, .val .flt), (9, .val .bool), (10, .val TI)]
noncomputable def eachFirst.t0 (x : (Int × Option Nat × Option Nat × Option Nat) × (Int × Option Nat × Option Nat × Option Nat) × ((List ((Option Nat × Option Nat × Option Nat) × (Option Nat × Option Nat × Option Nat) × Option Nat × Option Nat × Option Nat)) × List (Int) × (Option Nat × Option Nat × Option Nat) × Option Nat × Option Nat × Option Nat) × ((List (((Option Nat × Option Nat × Option Nat) × Option Nat × Option Nat × Option Nat) × Int × Int × Int × Int)) × List (Int)) × (((List (((Option Nat × Option Nat × Option Nat) × Option Nat × Option Nat × Option Nat) × Int × Int × Int × Int)) × List (Int)) × ((Option Nat × Option Nat × Option Nat) × Option Nat × Option Nat × Option Nat) × List Int × Unit) × (Option Nat) × Bool × Int × Unit) : T (Ex × (Int × Option Nat × Option Nat × Option Nat) × (Int × Option Nat × Option Nat × Option Nat) × ((List ((Option Nat × Option Nat × Option Nat) × (Option Nat × Option Nat × Option Nat) × Option Nat × Option Nat × Option Nat)) × List (Int) × (Option Nat × Option Nat × Option Nat) × Option Nat × Option Nat × Option Nat) × ((List (((Option Nat × Option Nat × Option Nat) × Option Nat × Option Nat × Option Nat) × Int × Int × Int × Int)) × List (Int)) × (((List (((Option Nat × Option Nat × Option Nat) × Option Nat × Option Nat × Option Nat) × Int × Int × Int × Int)) × List (Int)) × ((Option Nat × Option Nat × Option Nat) × Option Nat × Option Nat × Option Nat) × List Int × Unit) × (Option Nat) × Bool × Int × Unit) := T.ite (decide ((↑x.2.2.2.2.1.2.2.1.length : Int) > (0 : Int))) (T.ite (decide ((0 : Int) ≤ W ((↑x.2.2.2.2.1.2.2.1.length : Int) - (1 : Int))) && decide (W ((↑x.2.2.2.2.1.2.2.1.length : Int) - (1 : Int)) < (↑x.2.2.2.2.1.2.2.1.length : Int))) (T.opt x.2.2.2.2.1.2.2.1[(0 : Nat) + (W ((↑x.2.2.2.2.1.2.2.1.length : Int) - (1 : Int))).toNat]? fun y => T.ite (decide ((0 : Int) ≤ (0 : Int)) && decide ((0 : Int) ≤ W ((↑x.2.2.2.2.1.2.2.1.length : Int) - (1 : Int))) && decide (W ((↑x.2.2.2.2.1.2.2.1.length : Int) - (1 : Int)) ≤ (↑x.2.2.2.2.1.2.2.1.length : Int))) (T.opt (bvh_Tree_Node (x.2.2.2.2.1.1, y)) fun y => T.opt (box_Through (y.1.1, x.2.2.2.2.1.2.1)) fun y_1 => T.ite (x.2.2.2.2.2.2.1 && ford y_1.fst x.2.2.2.2.2.1 == some Ordering.gt) (T.ret (Ex.normal, x.1, x.2.1, x.2.2.1, x.2.2.2.1, (x.2.2.2.2.1.1, x.2.2.2.2.1.2.1, List.take ((W ((↑x.2.2.2.2.1.2.2.1.length : Int) - (1 : Int))).toNat - Int.toNat (0 : Int)) x.2.2.2.2.1.2.2.1, ()), x.2.2.2.2.2.1, x.2.2.2.2.2.2.1, W (x.2.2.2.2.2.2.2.1 + (1 : Int)), ())) (T.opt (eachFirst.l2 (x.1, x.2.1, x.2.2.1, x.2.2.2.1, (x.2.2.2.2.1.1, x.2.2.2.2.1.2.1, List.take ((W ((↑x.2.2.2.2.1.2.2.1.length : Int) - (1 : Int))).toNat - Int.toNat (0 : Int)) x.2.2.2.2.1.2.2.1, ()), x.2.2.2.2.2.1, x.2.2.2.2.2.2.1, W (x.2.2.2.2.2.2.2.1 + (1 : Int)), y.1, y.1.2.2.2.1, ())) fun y => T.ite (exEq y.1 (Ex.exit (2 : Nat))) (T.ite (decide (y.2.2.2.2.2.2.2.2.2.1.2.1 > (0 : Int))) (T.opt (bvh_Tree_Node (y.2.2.2.2.2.1.1, y.2.2.2.2.2.2.2.2.2.1.2.2.1)) fun y_2 => T.ite (!y_2.snd) (T.opt (bvh_Tree_Node (y.2.2.2.2.2.1.1, y.2.2.2.2.2.2.2.2.2.1.2.1)) fun y_3 => T.ite (!y_3.snd) (T.ret (Ex.normal, y.2.1, y.2.2.1, y.2.2.2.1, y.2.2.2.2.1, (y.2.2.2.2.2.1.1, y.2.2.2.2.2.1.2.1, List.take y.2.2.2.2.2.1.2.2.1.length y.2.2.2.2.2.1.2.2.1, ()), y.2.2.2.2.2.2.1, y.2.2.2.2.2.2.2.1, y.2.2.2.2.2.2.2.2.1, ())) (T.opt (box_Through (y_3.fst.fst, y.2.2.2.2.2.1.2.1)) fun y_4 => T.ite y_4.snd.snd (T.ite (decide ((y.2.2.2.2.2.1.2.2.1.length + (1 : Nat)) * nat_lit 8 ≤ most)) (T.ret (Ex.normal, y.2.1, y.2.2.1, y.2.2.2.1, y.2.2.2.2.1, (y.2.2.2.2.2.1.1, y.2.2.2.2.2.1.2.1, List.take (y.2.2.2.2.2.1.2.2.1.length + (1 : Nat)) (List.take y.2.2.2.2.2.1.2.2.1.length y.2.2.2.2.2.1.2.2.1 ++ [y.2.2.2.2.2.2.2.2.2.1.2.1]), ()), y.2.2.2.2.2.2.1, y.2.2.2.2.2.2.2.1, y.2.2.2.2.2.2.2.2.1, ())) T.fail) (T.ret (Ex.normal, y.2.1, y.2.2.1, y.2.2.2.1, y.2.2.2.2.1, (y.2.2.2.2.2.1.1, y.2.2.2.2.2.1.2.1, List.take y.2.2.2.2.2.1.2.2.1.length y.2.2.2.2.2.1.2.2.1, ()), y.2.2.2.2.2.2.1, y.2.2.2.2.2.2.2.1, y.2.2.2.2.2.2.2.2.1, ())))) (T.opt (box_Through (y_2.fst.fst, y.2.2.2.2.2.1.2.1)) fun y_3 => T.ite y_3.snd.snd (T.ite (decide ((y.2.2.2.2.2.1.2.2.1.length + (1 : Nat)) * nat_lit 8 ≤ most)) (T.opt (bvh_Tree_Node (y.2.2.2.2.2.1.1, y.2.2.2.2.2.2.2.2.2.1.2.1)) fun y_4 => T.ite (!y_4.snd) (T.ret (Ex.normal, y.2.1, y.2.2.1, y.2.2.2.1, y.2.2.2.2.1, (y.2.2.2.2.2.1.1, y.2.2.2.2.2.1.2.1, List.take (y.2.2.2.2.2.1.2.2.1.length + (1 : Nat)) (List.take y.2.2.2.2.2.1.2.2.1.length y.2.2.2.2.2.1.2.2.1 ++ [y.2.2.2.2.2.2.2.2.2.1.2.2.1]), ()), y.2.2.2.2.2.2.1, y.2.2.2.2.2.2.2.1, y.2.2.2.2.2.2.2.2.1, ())) (T.opt (box_Through (y_4.fst.fst, y.2.2.2.2.2.1.2.1)) fun y_5 => T.ite y_5.snd.snd (T.ite (decide ((y.2.2.2.2.2.1.2.2.1.length + (1 : Nat) + (1 : Nat)) * nat_lit 8 ≤ most)) (T.ret (Ex.normal, y.2.1, y.2.2.1, y.2.2.2.1, y.2.2.2.2.1, (y.2.2.2.2.2.1.1, y.2.2.2.2.2.1.2.1, List.take (y.2.2.2.2.2.1.2.2.1.length + (1 : Nat) + (1 : Nat)) (List.take (y.2.2.2.2.2.1.2.2.1.length + (1 : Nat)) (List.take y.2.2.2.2.2.1.2.2.1.length y.2.2.2.2.2.1.2.2.1 ++ [y.2.2.2.2.2.2.2.2.2.1.2.2.1]) ++ [y.2.2.2.2.2.2.2.2.2.1.2.1]), ()), y.2.2.2.2.2.2.1, y.2.2.2.2.2.2.2.1, y.2.2.2.2.2.2.2.2.1, ())) T.fail) (T.ret (Ex.normal, y.2.1, y.2.2.1, y.2.2.2.1, y.2.2.2.2.1, (y.2.2.2.2.2.1.1, y.2.2.2.2.2.1.2.1, List.take (y.2.2.2.2.2.1.2.2.1.length + (1 : Nat)) (List.take y.2.2.2.2.2.1.2.2.1.length y.2.2.2.2.2.1.2.2.1 ++ [y.2.2.2.2.2.2.2.2.2.1.2.2.1]), ()), y.2.2.2.2.2.2.1, y.2.2.2.2.2.2.2.1, y.2.2.2.2.2.2.2.2.1, ())))) T.fail) (T.opt (bvh_Tree_Node (y.2.2.2.2.2.1.1, y.2.2.2.2.2.2.2.2.2.1.2.1)) fun y_4 => T.ite (!y_4.snd) (T.ret (Ex.normal, y.2.1, y.2.2.1, y.2.2.2.1, y.2.2.2.2.1, (y.2.2.2.2.2.1.1, y.2.2.2.2.2.1.2.1, List.take y.2.2.2.2.2.1.2.2.1.length y.2.2.2.2.2.1.2.2.1, ()), y.2.2.2.2.2.2.1, y.2.2.2.2.2.2.2.1, y.2.2.2.2.2.2.2.2.1, ())) (T.opt (box_Through (y_4.fst.fst, y.2.2.2.2.2.1.2.1)) fun y_5 => T.ite y_5.snd.snd (T.ite (decide ((y.2.2.2.2.2.1.2.2.1.length + (1 : Nat)) * nat_lit 8 ≤ most)) (T.ret (Ex.normal, y.2.1, y.2.2.1, y.2.2.2.1, y.2.2.2.2.1, (y.2.2.2.2.2.1.1, y.2.2.2.2.2.1.2.1, List.take (y.2.2.2.2.2.1.2.2.1.length + (1 : Nat)) (List.take y.2.2.2.2.2.1.2.2.1.length y.2.2.2.2.2.1.2.2.1 ++ [y.2.2.2.2.2.2.2.2.2.1.2.1]), ()), y.2.2.2.2.2.2.1, y.2.2.2.2.2.2.2.1, y.2.2.2.2.2.2.2.2.1, ())) T.fail) (T.ret (Ex.normal, y.2.1, y.2.2.1, y.2.2.2.1, y.2.2.2.2.1, (y.2.2.2.2.2.1.1, y.2.2.2.2.2.1.2.1, List.take y.2.2.2.2.2.1.2.2.1.length y.2.2.2.2.2.1.2.2.1, ()), y.2.2.2.2.2.2.1, y.2.2.2.2.2.2.2.1, y.2.2.2.2.2.2.2.2.1, ())))))) (T.ret (Ex.normal, y.2.1, y.2.2.1, y.2.2.2.1, y.2.2.2.2.1, (y.2.2.2.2.2.1.1, y.2.2.2.2.2.1.2.1, List.take y.2.2.2.2.2.1.2.2.1.length y.2.2.2.2.2.1.2.2.1, ()), y.2.2.2.2.2.2.1, y.2.2.2.2.2.2.2.1, y.2.2.2.2.2.2.2.2.1, ()))) T.fail)) T.fail) T.fail) (T.ret (Ex.exit (0 : Nat), x.1, x.2.1, x.2.2.1, x.2.2.2.1, (x.2.2.2.2.1.1, x.2.2.2.2.1.2.1, List.take x.2.2.2.2.1.2.2.1.length x.2.2.2.2.1.2.2.1, ()), x.2.2.2.2.2.1, x.2.2.2.2.2.2.1, x.2.2.2.2.2.2.2.1, ()))
noncomputable def eachFirst.l0 (x : (Int × Option Nat × Option Nat × Option Nat) × (Int × Option Nat × Option Nat × Option Nat) × ((List ((Option Nat × Option Nat × Option Nat) × (Option Nat × Option Nat × Option Nat) × Option Nat × Option Nat × Option Nat)) × List (Int) × (Option Nat × Option Nat × Option Nat) × Option Nat × Option Nat × Option Nat) × ((List (((Option Nat × Option Nat × Option Nat) × Option Nat × Option Nat × Option Nat) × Int × Int × Int × Int)) × List (Int)) × (((List (((Option Nat × Option Nat × Option Nat) × Option Nat × Option Nat × Option Nat) × Int × Int × Int × Int)) × List (Int)) × ((Option Nat × Option Nat × Option Nat) × Option Nat × Option Nat × Option Nat) × List Int × Unit) × (Option Nat) × Bool × Int × Unit) : Option (Ex × (Int × Option Nat × Option Nat × Option Nat) × (Int × Option Nat × Option Nat × Option Nat) × ((List ((Option Nat × Option Nat × Option Nat) × (Option Nat × Option Nat × Option Nat) × Option Nat × Option Nat × Option Nat)) × List (Int) × (Option Nat × Option Nat × Option Nat) × Option Nat × Option Nat × Option Nat) × ((List (((Option Nat × Option Nat × Option Nat) × Option Nat × Option Nat × Option Nat) × Int × Int × Int × Int)) × List (Int)) × (((List (((Option Nat × Option Nat × Option Nat) × Option Nat × Option Nat × Option Nat) × Int × Int × Int × Int)) × List (Int)) × ((Option Nat × Option Nat × Option Nat) × Option Nat × Option Nat × Option Nat) × List Int × Unit) × (Option Nat) × Bool × Int × Unit) := (iterT eachFirst.t0 rounds x).run
theorem eachFirst.k0 : bodies 0 (lp Tryz.f67 []) = [.loop (loopIn 0 (lp Tryz.f67 []))] ∧ WP Tryz.prog 4 (.block 0 (.loop (loopIn 0 (lp Tryz.f67 [])))) (loopS eachFirst.L0 71 0 [.exit 0] eachFirst.l0) :=
  loop_treeN 4 (L := eachFirst.L0) (F := (dp Tryz.prog (ext (ext (ext (ext (ext (ext (ext Xs 51 bvh_Tree_Tri.q) 13 bvh_Tree_Node.q) 176 box_Through.q) 69 tri_Better.q) 123 hit_asker_1.q) 65 hit_none.q) 212 box_Through_1.q) eachFirst.deeps 100 8)) (D := (inL eachFirst.deeps.D)) (tab := [(2, loopS eachFirst.L2 71 2 [.exit 2] eachFirst.l2)]) (t := eachFirst.t0) mixed (dp_ok mixed (quiet_ext (quiet_ext (quiet_ext (quiet_ext (quiet_ext (quiet_ext (quiet_ext Xok bvh_Tree_Tri.ok) bvh_Tree_Node.ok) box_Through.ok) tri_Better.ok) hit_asker_1.ok) hit_none.ok) box_Through_1.ok) eachFirst.deepsOk 100 8).1 (dp_ok mixed (quiet_ext (quiet_ext (quiet_ext (quiet_ext (quiet_ext (quiet_ext (quiet_ext Xok bvh_Tree_Tri.ok) bvh_Tree_Node.ok) box_Through.ok) tri_Better.ok) hit_asker_1.ok) hit_none.ok) box_Through_1.ok) eachFirst.deepsOk 100 8).2 (fun _ => rfl) (by kernel_rfl) (by kernel_rfl) ⟨eachFirst.k2, trivial⟩ (fun x => by kernel_rfl)
noncomputable def eachFirst.S : List (Nat × (St → T (Ex × St))) := [(0, loopS eachFirst.L0 71 0 [.exit 0] eachFirst.l0)]
theorem eachFirst.tab : TabOK Tryz.prog 4 (codeOf Tryz.f67) eachFirst.S := ⟨eachFirst.k0, trivial⟩
end Go.Proofs.Pen

namespace Go.Proofs.Pen
open Go Go.Proofs
noncomputable def hit_asker.t (x : (List ((Option Nat × Option Nat × Option Nat) × (Option Nat × Option Nat × Option Nat) × Option Nat × Option Nat × Option Nat)) × ((Option Nat × Option Nat × Option Nat) × Option Nat × Option Nat × Option Nat) × (List (Int))) : T (((List ((Option Nat × Option Nat × Option Nat) × (Option Nat × Option Nat × Option Nat) × Option Nat × Option Nat × Option Nat)) × List (Int) × (Option Nat × Option Nat × Option Nat) × Option Nat × Option Nat × Option Nat)) := T.ret (x.1, x.2.2, x.2.1)
noncomputable def hit_asker.q : List AV → T AV := entry [(.sl TTri), TBox, (.sl TI)] (outR [(.clo 123 (.pair (.ptr (.sl TTri)) (.pair (.ptr (.sl TI)) (.ptr TBox))))]) hit_asker.t
theorem hit_asker.ok : FnOK Tryz.prog 66 hit_asker.q :=
  entry_in (ps := [(.sl TTri), TBox, (.sl TI)]) (rs := [(.clo 123 (.pair (.ptr (.sl TTri)) (.pair (.ptr (.sl TI)) (.ptr TBox))))]) (F := ({ quiet := (ext (ext (ext (ext (ext Xs 123 hit_asker_1.q) 151 vec_Sub_1.q) 179 tri_Meet_1.q) 192 vec_Mul_1.q) 212 box_Through_1.q), deep := noDeep } : Fns)) (D := D0) (S := tabS []) (t := hit_asker.t) mixed (quiet_ext (quiet_ext (quiet_ext (quiet_ext (quiet_ext Xok hit_asker_1.ok) vec_Sub_1.ok) tri_Meet_1.ok) vec_Mul_1.ok) box_Through_1.ok) (deep_none _) Tryz.func66 (by kernel_rfl) (sok_fn trivial) (by kernel_rfl) (fun x => by kernel_rfl)
end Go.Proofs.Pen
