/- A part of the proof that the law ImageShort is true of every input: models of the functions that the law reaches, and what holds of them. -/
import Derived.Test.YtfkgoljaeggbmabChecked
import Derived.KernelRfl
import Derived.Laws.Strings
import Derived.Test.YtfkgoljaeggbmabPenKit0
import Derived.Test.YtfkgoljaeggbmabPenKit1
import Derived.Test.YtfkgoljaeggbmabPenKit2
import Derived.Test.YtfkgoljaeggbmabPenImageShort3
import Derived.Test.YtfkgoljaeggbmabPenKit4
namespace Go.Proofs.Pen
open Go Go.Proofs
abbrev TI : Ty := (.int .i64)
abbrev TPic : Ty := (.st (.pair (.int .i64) (.pair (.int .i64) (.pair (.sl .flt) (.sl (.int .i64))))))
theorem mixed : Try.prog.follows .mixedOrders = true := by kernel_rfl
theorem x64 : ExOK Try.prog 64 bitsAV := bits_ok (by intros; kernel_rfl)
theorem x65 : ExOK Try.prog 65 fromBitsAV := fromBits_ok (by intros; kernel_rfl)
noncomputable def Xs : Nat → List AV → T AV := ext (ext noQ 64 bitsAV) 65 fromBitsAV
def deeps : Deeps := { D := [55, 56, 103], C := [55] }
theorem deepsOk : LoopsOK Try.prog deeps.S := loops_none _
theorem Xok : QuietOK Try.prog Xs := quiet_extE (quiet_extE (quiet_none _) x64) x65
end Go.Proofs.Pen

namespace Go.Proofs.Pen
open Go Go.Proofs
noncomputable def image_pixels.t (x : Int × Int) : T (Int) := T.ite (decide ((if x.2 < x.1 then x.2 else x.1) < (1 : Int)) || decide ((if x.2 > x.1 then x.2 else x.1) > (8192 : Int)) || decide (W (x.1 * x.2) > (65536 : Int))) (T.ret (0 : Int)) (T.ret (W (x.1 * x.2)))
noncomputable def image_pixels (x : Int × Int) : Option (Int) := (image_pixels.t x).run
noncomputable def image_pixels.q : List AV → T AV := entry [TI, TI] (outR [TI]) fun x => .opt (image_pixels x) .ret
theorem image_pixels.ok : FnOK Try.prog 57 image_pixels.q :=
  entry_call (ps := [TI, TI]) (rs := [TI]) (F := (dp Try.prog Xs deeps 100 8)) (D := (inL deeps.D)) (S := tabS []) (t := image_pixels.t) mixed (dp_ok mixed Xok deepsOk 100 8).1 (dp_ok mixed Xok deepsOk 100 8).2 Try.func57 (by kernel_rfl) (sok_fn trivial) (by kernel_rfl) (fun x => by kernel_rfl)
end Go.Proofs.Pen

namespace Go.Proofs.Pen
open Go Go.Proofs
noncomputable def image_Size.t (x : Int × Int) : T (Int) := T.opt (image_pixels x) fun y => T.ite (y == (0 : Int)) (T.ret (0 : Int)) (T.ret (W ((12 : Int) + W (y * (28 : Int)))))
noncomputable def image_Size (x : Int × Int) : Option (Int) := (image_Size.t x).run
noncomputable def image_Size.q : List AV → T AV := entry [TI, TI] (outR [TI]) fun x => .opt (image_Size x) .ret
theorem image_Size.ok : FnOK Try.prog 18 image_Size.q :=
  entry_call (ps := [TI, TI]) (rs := [TI]) (F := (dp Try.prog (ext Xs 57 image_pixels.q) deeps 100 8)) (D := (inL deeps.D)) (S := tabS []) (t := image_Size.t) mixed (dp_ok mixed (quiet_ext Xok image_pixels.ok) deepsOk 100 8).1 (dp_ok mixed (quiet_ext Xok image_pixels.ok) deepsOk 100 8).2 Try.func18 (by kernel_rfl) (sok_fn trivial) (by kernel_rfl) (fun x => by kernel_rfl)
end Go.Proofs.Pen

namespace Go.Proofs.Pen
open Go Go.Proofs
noncomputable def ref02_Number.t (x : (Option Nat)) : T (Bool) := T.ret (ford (fop BinOp.sub x x) (some (0 : Nat)) == some Ordering.eq)
noncomputable def ref02_Number.q : List AV → T AV := entry [.flt] (outR [.bool]) ref02_Number.t
theorem ref02_Number.ok : FnOK Try.prog 20 ref02_Number.q :=
  entry_in (ps := [.flt]) (rs := [.bool]) (F := (dp Try.prog Xs deeps 100 8)) (D := (inL deeps.D)) (S := tabS []) (t := ref02_Number.t) mixed (dp_ok mixed Xok deepsOk 100 8).1 (dp_ok mixed Xok deepsOk 100 8).2 Try.func20 (by kernel_rfl) (sok_fn trivial) (by kernel_rfl) (fun x => by kernel_rfl)
end Go.Proofs.Pen

namespace Go.Proofs.Pen
open Go Go.Proofs
set_option maxRecDepth 100000
noncomputable def law29_awake.t (_ : Unit) : T (Bool) := T.ret true
noncomputable def law29_awake.q : List AV → T AV := entry [] (outR [.bool]) fun _ => .ret (true : dens [.bool])
theorem law29_awake.ok : FnOK Try.prog 11 law29_awake.q := pe_entry mixed Xok 100 20 Try.func11 (by kernel_rfl) (by kernel_rfl)
end Go.Proofs.Pen

namespace Go.Proofs.Pen
open Go Go.Proofs
noncomputable def image_Bits.t (x : (Option Nat)) : T (Int) := T.opt x fun y => T.ret (↑y : Int)
noncomputable def image_Bits (x : (Option Nat)) : Option (Int) := (image_Bits.t x).run
noncomputable def image_Bits.q : List AV → T AV := entry [.flt] (outR [(.int .u64)]) fun x => .opt (image_Bits x) .ret
theorem image_Bits.ok : FnOK Try.prog 21 image_Bits.q :=
  entry_call (ps := [.flt]) (rs := [(.int .u64)]) (F := (dp Try.prog Xs deeps 100 8)) (D := (inL deeps.D)) (S := tabS []) (t := image_Bits.t) mixed (dp_ok mixed Xok deepsOk 100 8).1 (dp_ok mixed Xok deepsOk 100 8).2 Try.func21 (by kernel_rfl) (sok_fn trivial) (by kernel_rfl) (fun x => by kernel_rfl)
end Go.Proofs.Pen

namespace Go.Proofs.Pen
open Go Go.Proofs
def ref29_Bits.L0 : List (Nat × Lay) := [(3, .val (.int .u64)), (4, .val .flt), (5, .val TI)]
noncomputable def ref29_Bits.t0 (x : Int × (Option Nat) × Int × Unit) : T (Ex × Int × (Option Nat) × Int × Unit) := T.ite (ford x.2.1 (some (4611686018427387904 : Nat)) == some Ordering.gt || ford x.2.1 (some (4611686018427387904 : Nat)) == some Ordering.eq) (T.ret (Ex.normal, x.1, fop BinOp.quo x.2.1 (some (4611686018427387904 : Nat)), W (x.2.2.1 + (1 : Int)), ())) (T.ret (Ex.exit (0 : Nat), x.1, x.2.1, x.2.2.1, ()))
noncomputable def ref29_Bits.l0 (x : Int × (Option Nat) × Int × Unit) : Option (Ex × Int × (Option Nat) × Int × Unit) := (iterT ref29_Bits.t0 rounds x).run
theorem ref29_Bits.k0 : bodies 0 (lp Try.f22 []) = [.loop (loopIn 0 (lp Try.f22 []))] ∧ WP Try.prog 0 (.block 0 (.loop (loopIn 0 (lp Try.f22 [])))) (loopS ref29_Bits.L0 58 0 [.exit 0] ref29_Bits.l0) :=
  loop_tree (L := ref29_Bits.L0) (F := (dp Try.prog Xs deeps 100 8)) (D := (inL deeps.D)) (tab := []) (t := ref29_Bits.t0) mixed (dp_ok mixed Xok deepsOk 100 8).1 (dp_ok mixed Xok deepsOk 100 8).2 (fun _ => rfl) (by kernel_rfl) (by kernel_rfl) trivial (fun x => by kernel_rfl)
def ref29_Bits.L2 : List (Nat × Lay) := [(3, .val (.int .u64)), (4, .val .flt), (5, .val TI)]
noncomputable def ref29_Bits.t2 (x : Int × (Option Nat) × Int × Unit) : T (Ex × Int × (Option Nat) × Int × Unit) := T.ite (ford x.2.1 (some (4607182418800017408 : Nat)) == some Ordering.lt && decide (x.2.2.1 > (1 : Int))) (T.ret (Ex.normal, x.1, fop BinOp.mul x.2.1 (some (4611686018427387904 : Nat)), W (x.2.2.1 - (1 : Int)), ())) (T.ret (Ex.exit (2 : Nat), x.1, x.2.1, x.2.2.1, ()))
noncomputable def ref29_Bits.l2 (x : Int × (Option Nat) × Int × Unit) : Option (Ex × Int × (Option Nat) × Int × Unit) := (iterT ref29_Bits.t2 rounds x).run
theorem ref29_Bits.k2 : bodies 2 (lp Try.f22 []) = [.loop (loopIn 2 (lp Try.f22 []))] ∧ WP Try.prog 0 (.block 2 (.loop (loopIn 2 (lp Try.f22 [])))) (loopS ref29_Bits.L2 58 2 [.exit 2] ref29_Bits.l2) :=
  loop_tree (L := ref29_Bits.L2) (F := (dp Try.prog Xs deeps 100 8)) (D := (inL deeps.D)) (tab := []) (t := ref29_Bits.t2) mixed (dp_ok mixed Xok deepsOk 100 8).1 (dp_ok mixed Xok deepsOk 100 8).2 (fun _ => rfl) (by kernel_rfl) (by kernel_rfl) trivial (fun x => by kernel_rfl)
noncomputable def ref29_Bits.t (x : (Option Nat)) : T (Int) := T.ite (!ford x (some (0 : Nat)) == some Ordering.lt) (T.ite (ford x (some (0 : Nat)) == some Ordering.eq) (T.ite (ford (fop BinOp.quo (some (4607182418800017408 : Nat)) x) (some (0 : Nat)) == some Ordering.lt) (T.ite (ford (fop BinOp.sub (some (0 : Nat)) x) (some (0 : Nat)) == some Ordering.eq) (T.ret (9223372036854775808 : Int)) (T.opt (ref29_Bits.l0 ((9223372036854775808 : Int), fop BinOp.sub (some (0 : Nat)) x, (1023 : Int), ())) fun y => T.ite (exEq y.1 (Ex.exit (0 : Nat))) (T.opt (ref29_Bits.l2 (y.2.1, y.2.2.1, y.2.2.2.1, ())) fun y => T.ite (exEq y.1 (Ex.exit (2 : Nat))) (T.ite (ford y.2.2.1 (some (4607182418800017408 : Nat)) == some Ordering.lt) (T.opt (f2i IntKind.u64 (fop BinOp.mul y.2.2.1 (some (4841369599423283200 : Nat)))) fun y_1 => T.ret (IntKind.u64.wrap (y.2.1 + y_1))) (T.opt (f2i IntKind.u64 (fop BinOp.mul (fop BinOp.sub y.2.2.1 (some (4607182418800017408 : Nat))) (some (4841369599423283200 : Nat)))) fun y_1 => T.ret (IntKind.u64.wrap (IntKind.u64.wrap (y.2.1 + IntKind.u64.wrap (IntKind.u64.wrap y.2.2.2.1 * (4503599627370496 : Int))) + y_1)))) T.fail) T.fail)) (T.ite (ford x (some (0 : Nat)) == some Ordering.eq) (T.ret (0 : Int)) (T.opt (ref29_Bits.l0 ((0 : Int), x, (1023 : Int), ())) fun y => T.ite (exEq y.1 (Ex.exit (0 : Nat))) (T.opt (ref29_Bits.l2 (y.2.1, y.2.2.1, y.2.2.2.1, ())) fun y => T.ite (exEq y.1 (Ex.exit (2 : Nat))) (T.ite (ford y.2.2.1 (some (4607182418800017408 : Nat)) == some Ordering.lt) (T.opt (f2i IntKind.u64 (fop BinOp.mul y.2.2.1 (some (4841369599423283200 : Nat)))) fun y_1 => T.ret (IntKind.u64.wrap (y.2.1 + y_1))) (T.opt (f2i IntKind.u64 (fop BinOp.mul (fop BinOp.sub y.2.2.1 (some (4607182418800017408 : Nat))) (some (4841369599423283200 : Nat)))) fun y_1 => T.ret (IntKind.u64.wrap (IntKind.u64.wrap (y.2.1 + IntKind.u64.wrap (IntKind.u64.wrap y.2.2.2.1 * (4503599627370496 : Int))) + y_1)))) T.fail) T.fail))) (T.ite (ford x (some (0 : Nat)) == some Ordering.eq) (T.ret (0 : Int)) (T.opt (ref29_Bits.l0 ((0 : Int), x, (1023 : Int), ())) fun y => T.ite (exEq y.1 (Ex.exit (0 : Nat))) (T.opt (ref29_Bits.l2 (y.2.1, y.2.2.1, y.2.2.2.1, ())) fun y => T.ite (exEq y.1 (Ex.exit (2 : Nat))) (T.ite (ford y.2.2.1 (some (4607182418800017408 : Nat)) == some Ordering.lt) (T.opt (f2i IntKind.u64 (fop BinOp.mul y.2.2.1 (some (4841369599423283200 : Nat)))) fun y_1 => T.ret (IntKind.u64.wrap (y.2.1 + y_1))) (T.opt (f2i IntKind.u64 (fop BinOp.mul (fop BinOp.sub y.2.2.1 (some (4607182418800017408 : Nat))) (some (4841369599423283200 : Nat)))) fun y_1 => T.ret (IntKind.u64.wrap (IntKind.u64.wrap (y.2.1 + IntKind.u64.wrap (IntKind.u64.wrap y.2.2.2.1 * (4503599627370496 : Int))) + y_1)))) T.fail) T.fail))) (T.ite (ford (fop BinOp.sub (some (0 : Nat)) x) (some (0 : Nat)) == some Ordering.eq) (T.ret (9223372036854775808 : Int)) (T.opt (ref29_Bits.l0 ((9223372036854775808 : Int), fop BinOp.sub (some (0 : Nat)) x, (1023 : Int), ())) fun y => T.ite (exEq y.1 (Ex.exit (0 : Nat))) (T.opt (ref29_Bits.l2 (y.2.1, y.2.2.1, y.2.2.2.1, ())) fun y => T.ite (exEq y.1 (Ex.exit (2 : Nat))) (T.ite (ford y.2.2.1 (some (4607182418800017408 : Nat)) == some Ordering.lt) (T.opt (f2i IntKind.u64 (fop BinOp.mul y.2.2.1 (some (4841369599423283200 : Nat)))) fun y_1 => T.ret (IntKind.u64.wrap (y.2.1 + y_1))) (T.opt (f2i IntKind.u64 (fop BinOp.mul (fop BinOp.sub y.2.2.1 (some (4607182418800017408 : Nat))) (some (4841369599423283200 : Nat)))) fun y_1 => T.ret (IntKind.u64.wrap (IntKind.u64.wrap (y.2.1 + IntKind.u64.wrap (IntKind.u64.wrap y.2.2.2.1 * (4503599627370496 : Int))) + y_1)))) T.fail) T.fail))
noncomputable def ref29_Bits (x : (Option Nat)) : Option (Int) := (ref29_Bits.t x).run
noncomputable def ref29_Bits.q : List AV → T AV := entry [.flt] (outR [(.int .u64)]) fun x => .opt (ref29_Bits x) .ret
theorem ref29_Bits.ok : FnOK Try.prog 22 ref29_Bits.q :=
  entry_call (ps := [.flt]) (rs := [(.int .u64)]) (F := (dp Try.prog Xs deeps 100 8)) (D := (inL deeps.D)) (S := tabS [(0, loopS ref29_Bits.L0 58 0 [.exit 0] ref29_Bits.l0), (2, loopS ref29_Bits.L2 58 2 [.exit 2] ref29_Bits.l2)]) (t := ref29_Bits.t) mixed (dp_ok mixed Xok deepsOk 100 8).1 (dp_ok mixed Xok deepsOk 100 8).2 Try.func22 (by kernel_rfl) (sok_fn ⟨ref29_Bits.k0, ref29_Bits.k2, trivial⟩) (by kernel_rfl) (fun x => by kernel_rfl)
end Go.Proofs.Pen

namespace Go.Proofs.Pen
open Go Go.Proofs
noncomputable def image_Float.t (x : Int) : T ((Option Nat)) := T.ret (some (Int.toNat x))
noncomputable def image_Float.q : List AV → T AV := entry [(.int .u64)] (outR [.flt]) image_Float.t
theorem image_Float.ok : FnOK Try.prog 24 image_Float.q :=
  entry_in (ps := [(.int .u64)]) (rs := [.flt]) (F := (dp Try.prog Xs deeps 100 8)) (D := (inL deeps.D)) (S := tabS []) (t := image_Float.t) mixed (dp_ok mixed Xok deepsOk 100 8).1 (dp_ok mixed Xok deepsOk 100 8).2 Try.func24 (by kernel_rfl) (sok_fn trivial) (by kernel_rfl) (fun x => by kernel_rfl)
end Go.Proofs.Pen

namespace Go.Proofs.Pen
open Go Go.Proofs
noncomputable def ref29_Same.t (x : (Option Nat) × (Option Nat)) : T (Bool) := T.ite (ford x.1 x.2 == some Ordering.eq) (T.ite (ford x.1 (some (0 : Nat)) != some Ordering.eq) (T.ret true) (T.ret (ford (fop BinOp.quo (some (4607182418800017408 : Nat)) x.1) (fop BinOp.quo (some (4607182418800017408 : Nat)) x.2) == some Ordering.eq))) (T.ret false)
noncomputable def ref29_Same (x : (Option Nat) × (Option Nat)) : Option (Bool) := (ref29_Same.t x).run
noncomputable def ref29_Same.q : List AV → T AV := entry [.flt, .flt] (outR [.bool]) fun x => .opt (ref29_Same x) .ret
theorem ref29_Same.ok : FnOK Try.prog 23 ref29_Same.q :=
  entry_call (ps := [.flt, .flt]) (rs := [.bool]) (F := (dp Try.prog Xs deeps 100 8)) (D := (inL deeps.D)) (S := tabS []) (t := ref29_Same.t) mixed (dp_ok mixed Xok deepsOk 100 8).1 (dp_ok mixed Xok deepsOk 100 8).2 Try.func23 (by kernel_rfl) (sok_fn trivial) (by kernel_rfl) (fun x => by kernel_rfl)
end Go.Proofs.Pen

namespace Go.Proofs.Pen
open Go Go.Proofs
noncomputable def law29_ImageBits.t (x : (Option Nat) × Int × Int) : T (Bool) := T.ite (decide (x.2.1 ≥ (1 : Int)) && decide (x.2.2 ≥ (1 : Int)) && decide (x.2.1 ≤ (8192 : Int)) && decide (x.2.2 ≤ (8192 : Int)) && decide (W (x.2.1 * x.2.2) ≤ (65536 : Int))) (T.opt (image_Size x.2) fun y => T.ite (y != W ((12 : Int) + W (W ((28 : Int) * x.2.1) * x.2.2))) (T.ret false) (T.ite (!ford (fop BinOp.sub x.1 x.1) (some (0 : Nat)) == some Ordering.eq) (T.ret true) (T.ite true (T.opt (image_Bits x.1) fun y => T.opt (ref29_Bits x.1) fun y_1 => T.ite (y == y_1) (T.opt (ref29_Bits x.1) fun y => T.opt (ref29_Same (some y.toNat, x.1)) fun y => T.ret y) (T.ret false)) (T.ret false)))) (T.opt (image_Size x.2) fun y => T.ite (y != (0 : Int)) (T.ret false) (T.ite (!ford (fop BinOp.sub x.1 x.1) (some (0 : Nat)) == some Ordering.eq) (T.ret true) (T.ite true (T.opt (image_Bits x.1) fun y => T.opt (ref29_Bits x.1) fun y_1 => T.ite (y == y_1) (T.opt (ref29_Bits x.1) fun y => T.opt (ref29_Same (some y.toNat, x.1)) fun y => T.ret y) (T.ret false)) (T.ret false))))
noncomputable def law29_ImageBits (x : (Option Nat) × Int × Int) : Option (Bool) := (law29_ImageBits.t x).run
noncomputable def law29_ImageBits.q : List AV → T AV := entry [.flt, TI, TI] (outR [.bool]) fun x => .opt (law29_ImageBits x) .ret
theorem law29_ImageBits.ok : FnOK Try.prog 6 law29_ImageBits.q :=
  entry_call (ps := [.flt, TI, TI]) (rs := [.bool]) (F := (dp Try.prog (ext (ext (ext (ext (ext (ext (ext Xs 18 image_Size.q) 20 ref02_Number.q) 11 law29_awake.q) 21 image_Bits.q) 22 ref29_Bits.q) 24 image_Float.q) 23 ref29_Same.q) deeps 100 8)) (D := (inL deeps.D)) (S := tabS []) (t := law29_ImageBits.t) mixed (dp_ok mixed (quiet_ext (quiet_ext (quiet_ext (quiet_ext (quiet_ext (quiet_ext (quiet_ext Xok image_Size.ok) ref02_Number.ok) law29_awake.ok) image_Bits.ok) ref29_Bits.ok) image_Float.ok) ref29_Same.ok) deepsOk 100 8).1 (dp_ok mixed (quiet_ext (quiet_ext (quiet_ext (quiet_ext (quiet_ext (quiet_ext (quiet_ext Xok image_Size.ok) ref02_Number.ok) law29_awake.ok) image_Bits.ok) ref29_Bits.ok) image_Float.ok) ref29_Same.ok) deepsOk 100 8).2 Try.func6 (by kernel_rfl) (sok_fn trivial) (by kernel_rfl) (fun x => by kernel_rfl)
end Go.Proofs.Pen

namespace Go.Proofs.Pen
open Go Go.Proofs

theorem U_id {n : Int} (h1 : 0 ≤ n) (h2 : n < 18446744073709551616) : IntKind.u64.wrap n = n := by
  have e : (2 ^ IntKind.u64.bits : Int) = 18446744073709551616 := by decide
  have es : IntKind.u64.signed = false := rfl
  unfold IntKind.wrap
  simp only [e, es, Bool.false_and, Bool.false_eq_true, if_false]
  exact Int.emod_eq_of_lt h1 h2

/-- The two loops and what comes behind them. -/
noncomputable def coreE (b : Int) (x : Option Nat) (n : Int) : T Int :=
  T.ite (ford x (some 4607182418800017408) == some Ordering.lt) (T.opt (f2i IntKind.u64 (fop BinOp.mul x (some 4841369599423283200))) fun y_1 => T.ret (IntKind.u64.wrap (b + y_1))) (T.opt (f2i IntKind.u64 (fop BinOp.mul (fop BinOp.sub x (some 4607182418800017408)) (some 4841369599423283200))) fun y_1 => T.ret (IntKind.u64.wrap (IntKind.u64.wrap (b + IntKind.u64.wrap (IntKind.u64.wrap n * 4503599627370496)) + y_1)))
noncomputable def coreD (b : Int) (x : Option Nat) (n : Int) : T Int :=
  T.opt (ref29_Bits.l2 (b, x, n, ())) fun y => T.ite (exEq y.1 (Ex.exit 2)) (coreE y.2.1 y.2.2.1 y.2.2.2.1) T.fail
noncomputable def coreB (b : Int) (x : Option Nat) : T Int :=
  T.opt (ref29_Bits.l0 (b, x, 1023, ())) fun y => T.ite (exEq y.1 (Ex.exit 0)) (coreD y.2.1 y.2.2.1 y.2.2.2.1) T.fail

theorem coreB_of {b b' n : Int} {x y : Option Nat} (h : ref29_Bits.l0 (b, x, 1023, ()) = some (.exit 0, b', y, n, ())) : (coreB b x).run = (coreD b' y n).run := by
  unfold coreB; rw [tr_opt, h]; rfl
theorem coreD_of {b b' n m : Int} {x y : Option Nat} (h : ref29_Bits.l2 (b, x, n, ()) = some (.exit 2, b', y, m, ())) : (coreD b x n).run = (coreE b' y m).run := by
  unfold coreD; rw [tr_opt, h]; rfl

theorem sub_step (r i B : Nat) : r - i * B - B = r - (i + 1) * B := by rw [Nat.succ_mul, Nat.sub_sub]

theorem c2 : (4611686018427387904 : Nat) = rungOf 4503599627370496 (-51) := by decide
theorem c1 : (4607182418800017408 : Nat) = rungOf 4503599627370496 (-52) := by decide

/-- The first loop: halving. -/
theorem loop0 (b : Int) {r : Nat} (h0 : 0 < r) (h : r < 9218868437227405312) :
    ref29_Bits.l0 (b, some r, 1023, ()) = some (.exit 0, b, some (r - (r / 4503599627370496 - 1023) * 4503599627370496), 1023 + ((r / 4503599627370496 - 1023 : Nat) : Int), ()) := by
  unfold ref29_Bits.l0
  have hq : r / 4503599627370496 ≤ 2046 := by omega
  generalize hn : r / 4503599627370496 - 1023 = n
  have hn2 : n ≤ 1023 := by omega
  have := iter_count (t := ref29_Bits.t0) (fun i => ((b, some (r - i * 4503599627370496), 1023 + (i : Int), ()) : Int × Option Nat × Int × Unit)) (e := .exit 0) (z := (b, some (r - n * 4503599627370496), 1023 + (n : Int), ())) (by simp) n 0 rounds (fun i _ hi => ?_) ?_ (rounds_gt (by omega))
  · simpa using this
  · have hi : i < n := by omega
    have hle : (i + 1) * 4503599627370496 ≤ n * 4503599627370496 := Nat.mul_le_mul_right _ hi
    have e9 := Nat.succ_mul i 4503599627370496
    have hbig : 4611686018427387904 ≤ r - i * 4503599627370496 := by omega
    have h1 := (ord_pow (r := r - i * 4503599627370496) (by omega) (by omega) (by omega) c2 (by omega)).2
    unfold ref29_Bits.t0
    dsimp only
    rw [tr_ite, h1, decide_eq_true hbig, if_pos rfl, tr_ret, half (by omega) (by omega)]
    have e1 : W (1023 + (i : Int) + 1) = 1023 + ((i + 1 : Nat) : Int) := by rw [W_id (by omega) (by omega)]; omega
    have e2 := sub_step r i 4503599627370496
    rw [e1, e2]
  · rw [Nat.zero_add]
    have hsm : ¬ 4611686018427387904 ≤ r - n * 4503599627370496 := by omega
    have h1 := (ord_pow (r := r - n * 4503599627370496) (by omega) (by omega) (by omega) c2 (by omega)).2
    unfold ref29_Bits.t0
    dsimp only
    rw [tr_ite, h1, decide_eq_false hsm, if_neg (by simp), tr_ret]

/-- The second one: doubling; the state behind 'i' rounds. -/
theorem loop2 (b : Int) (ρ : Nat → Nat) (n : Nat) (hn : n ≤ 1022) (h0 : ∀ i, i ≤ n → 0 < ρ i ∧ ρ i < 9214364837600034816) (h1 : ∀ i, i < n → ρ i < 4607182418800017408 ∧ dbl (ρ i) = ρ (i + 1)) (h2 : 4607182418800017408 ≤ ρ n ∨ n = 1022) :
    ref29_Bits.l2 (b, some (ρ 0), 1023, ()) = some (.exit 2, b, some (ρ n), 1023 - (n : Int), ()) := by
  unfold ref29_Bits.l2
  have := iter_count (t := ref29_Bits.t2) (fun i => ((b, some (ρ i), 1023 - (i : Int), ()) : Int × Option Nat × Int × Unit)) (e := .exit 2) (z := (b, some (ρ n), 1023 - (n : Int), ())) (by simp) n 0 rounds (fun i _ hi => ?_) ?_ (rounds_gt (by omega))
  · simpa using this
  · have hi : i < n := by omega
    obtain ⟨k1, k2⟩ := h1 i hi
    obtain ⟨k3, k4⟩ := h0 i (by omega)
    have h1 := (ord_pow (r := ρ i) k3 (by omega) (by omega) c1 (by omega)).1
    unfold ref29_Bits.t2
    dsimp only
    have e0 : decide (1023 - (i : Int) > 1) = true := by simp; omega
    rw [tr_ite, h1, decide_eq_true k1, e0, if_pos (by simp), tr_ret, mul2 k3 k4, k2]
    have e1 : W (1023 - (i : Int) - 1) = 1023 - ((i + 1 : Nat) : Int) := by rw [W_id (by omega) (by omega)]; omega
    rw [e1]
  · rw [Nat.zero_add]
    obtain ⟨k3, k4⟩ := h0 n (Nat.le_refl _)
    have h1 := (ord_pow (r := ρ n) k3 (by omega) (by omega) c1 (by omega)).1
    unfold ref29_Bits.t2
    dsimp only
    have e0 : (decide (ρ n < 4607182418800017408) && decide (1023 - (n : Int) > 1)) = false := by
      rcases h2 with h2 | h2
      · have : decide (ρ n < 4607182418800017408) = false := by simp; omega
        rw [this]; rfl
      · have : decide (1023 - (n : Int) > 1) = false := by simp; omega
        rw [this]; simp
    rw [tr_ite, h1, e0, if_neg (by simp), tr_ret]

/-- Behind the second loop: a number from 1 on. -/
theorem tail_norm {b : Int} {F q : Nat} (hF : F < 4503599627370496) (hq : q ≤ 2046) (hb : 0 ≤ b) (hb2 : b ≤ 9223372036854775808) :
    (coreE b (some (4607182418800017408 + F)) (q : Int)).run = some (b + ((q * 4503599627370496 + F : Nat) : Int)) := by
  have h1 := (ord_pow (r := 4607182418800017408 + F) (by omega) (by omega) (by omega) c1 (by omega)).1
  unfold coreE
  rw [tr_ite, h1, decide_eq_false (by omega), if_neg (by simp), tr_opt, frac52 hF, Option.bind_some, tr_ret]
  have e : b + (q : Int) * 4503599627370496 + (F : Int) = b + ((q * 4503599627370496 + F : Nat) : Int) := by omega
  rw [U_id (n := (q : Int)) (by omega) (by omega), U_id (n := (q : Int) * 4503599627370496) (by omega) (by omega), U_id (n := b + (q : Int) * 4503599627370496) (by omega) (by omega), U_id (by omega) (by omega), e]

/-- .. or below. -/
theorem tail_sub {b : Int} {F : Nat} {n : Int} (h0 : 0 < F) (hF : F < 4503599627370496) (hr : rungOf (F * 2 ^ (52 - F.log2)) (-52 - ((52 - F.log2 : Nat) : Int)) < 4607182418800017408) (hb : 0 ≤ b) (hb2 : b ≤ 9223372036854775808) :
    (coreE b (some (rungOf (F * 2 ^ (52 - F.log2)) (-52 - ((52 - F.log2 : Nat) : Int)))) n).run = some (b + (F : Int)) := by
  obtain ⟨k1, k2, k3⟩ := can_frac h0 hF
  have h1 := (ord_pow (r := rungOf (F * 2 ^ (52 - F.log2)) (-52 - ((52 - F.log2 : Nat) : Int))) (by unfold rungOf; omega) (by omega) (by omega) c1 (by omega)).1
  unfold coreE
  rw [tr_ite, h1, decide_eq_true hr, if_pos rfl, tr_opt, mul52 h0 hF, Option.bind_some, tr_ret, U_id (by omega) (by omega)]

theorem core_big {b : Int} (hb : 0 ≤ b) (hb2 : b ≤ 9223372036854775808) {r : Nat} (h0 : 0 < r) (h : r < 9218868437227405312) (hb0 : 1023 ≤ r / 4503599627370496) : (coreB b (some r)).run = some (b + (r : Int)) := by
  have hdiv : r = r / 4503599627370496 * 4503599627370496 + r % 4503599627370496 := by omega
  have hmod : r % 4503599627370496 < 4503599627370496 := Nat.mod_lt _ (by omega)
  rw [coreB_of (loop0 b h0 h)]
  have hbig := hb0
  generalize hQ : r / 4503599627370496 = q at *
  generalize hF : r % 4503599627370496 = F at *
  have e1 : r - (q - 1023) * 4503599627370496 = 4607182418800017408 + F := by
    have := Nat.sub_mul q 1023 4503599627370496
    omega
  have e2 : (1023 : Int) + ((q - 1023 : Nat) : Int) = (q : Int) := by omega
  rw [e1, e2]
  have hl : ref29_Bits.l2 (b, some (4607182418800017408 + F), (q : Int), ()) = some (.exit 2, b, some (4607182418800017408 + F), (q : Int), ()) := by
    unfold ref29_Bits.l2
    have hs : (ref29_Bits.t2 (b, some (4607182418800017408 + F), (q : Int), ())).run = some (.exit 2, b, some (4607182418800017408 + F), (q : Int), ()) := by
      have h1 := (ord_pow (r := 4607182418800017408 + F) (by omega) (by omega) (by omega) c1 (by omega)).1
      unfold ref29_Bits.t2
      dsimp only
      rw [tr_ite, h1, decide_eq_false (by omega), if_neg (by simp), tr_ret]
    have hr : rounds = (rounds - 1) + 1 := by unfold rounds; omega
    rw [hr, iter_step hs]
  rw [coreD_of hl, tail_norm hmod (by omega) hb hb2, ← hdiv]

theorem core_mid {b : Int} (hb : 0 ≤ b) (hb2 : b ≤ 9223372036854775808) {r : Nat} (h0 : 0 < r) (h : r < 9218868437227405312) (hb0 : ¬ 1023 ≤ r / 4503599627370496) (hn0 : 1 ≤ r / 4503599627370496) : (coreB b (some r)).run = some (b + (r : Int)) := by
  have hdiv : r = r / 4503599627370496 * 4503599627370496 + r % 4503599627370496 := by omega
  have hmod : r % 4503599627370496 < 4503599627370496 := Nat.mod_lt _ (by omega)
  rw [coreB_of (loop0 b h0 h)]
  have hbig := hb0
  have hnorm := hn0
  generalize hQ : r / 4503599627370496 = q at *
  generalize hF : r % 4503599627370496 = F at *
  have e1 : q - 1023 = 0 := by omega
  rw [e1, Nat.zero_mul, Nat.sub_zero]
  have e2 : (1023 : Int) + ((0 : Nat) : Int) = 1023 := by omega
  rw [e2]
  have hl := loop2 b (fun i => r + i * 4503599627370496) (1023 - q) (by omega) (fun i hi => by
    have : i * 4503599627370496 ≤ (1023 - q) * 4503599627370496 := Nat.mul_le_mul_right _ hi
    have e := Nat.sub_mul 1023 q 4503599627370496
    omega) (fun i hi => by
    have : (i + 1) * 4503599627370496 ≤ (1023 - q) * 4503599627370496 := Nat.mul_le_mul_right _ hi
    have e := Nat.sub_mul 1023 q 4503599627370496
    have e9 := Nat.succ_mul i 4503599627370496
    refine ⟨by omega, ?_⟩
    unfold dbl
    rw [if_neg (by omega)]
    have e9 := Nat.succ_mul i 4503599627370496
    omega) (.inl (by
    have e := Nat.sub_mul 1023 q 4503599627370496
    omega))
  have e3 : r + (1023 - q) * 4503599627370496 = 4607182418800017408 + F := by
    have e := Nat.sub_mul 1023 q 4503599627370496
    omega
  have e4 : (1023 : Int) - ((1023 - q : Nat) : Int) = (q : Int) := by omega
  simp only [Nat.zero_mul, Nat.add_zero] at hl
  rw [e3, e4] at hl
  rw [coreD_of hl, tail_norm hmod (by omega) hb hb2, ← hdiv]

theorem core_small {b : Int} (hb : 0 ≤ b) (hb2 : b ≤ 9223372036854775808) {r : Nat} (h0 : 0 < r) (h : r < 9218868437227405312) (hb0 : ¬ 1023 ≤ r / 4503599627370496) (hn0 : ¬ 1 ≤ r / 4503599627370496) : (coreB b (some r)).run = some (b + (r : Int)) := by
  have hdiv : r = r / 4503599627370496 * 4503599627370496 + r % 4503599627370496 := by omega
  have hmod : r % 4503599627370496 < 4503599627370496 := Nat.mod_lt _ (by omega)
  rw [coreB_of (loop0 b h0 h)]
  have hbig := hb0
  have hnorm := hn0
  generalize hQ : r / 4503599627370496 = q at *
  generalize hF : r % 4503599627370496 = F at *
  have e1 : q - 1023 = 0 := by omega
  rw [e1, Nat.zero_mul, Nat.sub_zero]
  have e2 : (1023 : Int) + ((0 : Nat) : Int) = 1023 := by omega
  rw [e2]
  have hrF : r = F := by omega
  have hFp : 0 < F := by omega
  obtain ⟨k1, k2, k3⟩ := can_frac hFp hmod
  generalize hj : 52 - F.log2 = j at *
  have hpw : ∀ i, i < j → F * 2 ^ i < 4503599627370496 := fun i hi => by
    have h3 : F < 2 ^ (F.log2 + 1) := Nat.lt_log2_self
    have h4 : F * 2 ^ i < 2 ^ (F.log2 + 1) * 2 ^ i := Nat.mul_lt_mul_of_pos_right h3 (Nat.two_pow_pos _)
    rw [← Nat.pow_add] at h4
    have h5 : (2 : Nat) ^ (F.log2 + 1 + i) ≤ 2 ^ 52 := Nat.pow_le_pow_right (by omega) (by omega)
    rw [two52] at h5
    omega
  have hl := loop2 b (fun i => if i ≤ j then F * 2 ^ i else F * 2 ^ j + (i - j) * 4503599627370496) 1022 (by omega) (fun i hi => by
    split
    · have h1 : F * 1 ≤ F * 2 ^ i := Nat.mul_le_mul_left _ (Nat.two_pow_pos _)
      have h2 : F * 2 ^ i ≤ F * 2 ^ j := Nat.mul_le_mul_left _ (Nat.pow_le_pow_right (by omega) (by omega))
      omega
    · have : (i - j) * 4503599627370496 ≤ 1021 * 4503599627370496 := Nat.mul_le_mul_right _ (by omega)
      omega) (fun i hi => by
    by_cases h1 : i < j
    · rw [if_pos (by omega), if_pos (by omega)]
      have := hpw i h1
      refine ⟨by omega, ?_⟩
      unfold dbl
      rw [if_pos this, Nat.mul_left_comm, Nat.pow_succ, Nat.mul_comm 2]
    · have e : (if i ≤ j then F * 2 ^ i else F * 2 ^ j + (i - j) * 4503599627370496) = F * 2 ^ j + (i - j) * 4503599627370496 := by
        split
        · have : i = j := by omega
          subst this; simp
        · rfl
      have hb : (i - j) * 4503599627370496 ≤ 1020 * 4503599627370496 := Nat.mul_le_mul_right _ (by omega)
      rw [e, if_neg (by omega)]
      refine ⟨by omega, ?_⟩
      unfold dbl
      rw [if_neg (by omega), show i + 1 - j = (i - j) + 1 by omega]
      have e9 := Nat.succ_mul (i - j) 4503599627370496
      omega) (.inr rfl)
  have e3 : (if 1022 ≤ j then F * 2 ^ 1022 else F * 2 ^ j + (1022 - j) * 4503599627370496) = rungOf (F * 2 ^ j) (-52 - (j : Int)) := by
    rw [if_neg (by omega)]
    unfold rungOf
    rw [show (-52 - (j : Int) + 1074).toNat = 1022 - j by omega]; omega
  have e4 : (1023 : Int) - ((1022 : Nat) : Int) = 1 := by omega
  simp only [Nat.zero_le, if_true, Nat.pow_zero, Nat.mul_one] at hl
  rw [e3, e4] at hl
  have hr : rungOf (F * 2 ^ j) (-52 - (j : Int)) < 4607182418800017408 := by
    unfold rungOf
    rw [show (-52 - (j : Int) + 1074).toNat = 1022 - j by omega]
    have : (1022 - j) * 4503599627370496 ≤ 1021 * 4503599627370496 := Nat.mul_le_mul_right _ (by omega)
    omega
  rw [hrF, coreD_of hl]
  subst hj
  exact tail_sub hFp hmod hr hb hb2

theorem core_run {b : Int} (hb : 0 ≤ b) (hb2 : b ≤ 9223372036854775808) {r : Nat} (h0 : 0 < r) (h : r < 9218868437227405312) : (coreB b (some r)).run = some (b + (r : Int)) := by
  by_cases h1 : 1023 ≤ r / 4503599627370496
  · exact core_big hb hb2 h0 h h1
  · by_cases h2 : 1 ≤ r / 4503599627370496
    · exact core_mid hb hb2 h0 h h1 h2
    · exact core_small hb hb2 h0 h h1 h2

theorem inv_pos : fop .quo (some 4607182418800017408) (some 0) = some 9218868437227405312 := by decide +kernel
theorem ord_infp : ford (some 9218868437227405312) (some 0) = some .gt := by decide +kernel
theorem inv_neg : fop .quo (some 4607182418800017408) (some (FF.word true 0)) = some (FF.word true 9218868437227405312) := inv_zero true

theorem bits_eq (x : Option Nat) : ref29_Bits.t x = T.ite (!ford x (some 0) == some Ordering.lt) (T.ite (ford x (some 0) == some Ordering.eq) (T.ite (ford (fop BinOp.quo (some 4607182418800017408) x) (some 0) == some Ordering.lt) (T.ite (ford (fop BinOp.sub (some 0) x) (some 0) == some Ordering.eq) (T.ret 9223372036854775808) (coreB 9223372036854775808 (fop BinOp.sub (some 0) x)))
   (T.ite (ford x (some 0) == some Ordering.eq) (T.ret 0) (coreB 0 x))) (T.ite (ford x (some 0) == some Ordering.eq) (T.ret 0) (coreB 0 x))) (T.ite (ford (fop BinOp.sub (some 0) x) (some 0) == some Ordering.eq) (T.ret 9223372036854775808) (coreB 9223372036854775808 (fop BinOp.sub (some 0) x))) := rfl

/-- The bits of a finite number. -/
theorem bits_law {w : Nat} (h : w < 18446744073709551616) (hf : ford (fop .sub (some w) (some w)) (some 0) = some .eq) : ref29_Bits (some w) = some (w : Int) := by
  obtain ⟨s, r, rfl, hr⟩ := word_split h
  have hfin : r < 9218868437227405312 := by
    apply Classical.byContradiction; intro hn
    rw [not_number s (by omega) hr] at hf
    exact absurd hf (by simp [ford])
  have ho := ord_zero s hfin
  unfold ref29_Bits
  rw [bits_eq, ho]
  cases s with
  | false =>
    rw [word_pos] at *
    by_cases h0 : r = 0
    · subst h0
      rw [inv_pos, ord_infp]
      simp [tr_ite, tr_ret]
    · rw [if_neg h0]
      have hc := core_run (b := 0) (by omega) (by omega) (Nat.pos_of_ne_zero h0) hfin
      simp [tr_ite, hc]
  | true =>
    have hw : ((FF.word true r : Nat) : Int) = 9223372036854775808 + (r : Int) := by
      have : FF.word true r = FF.signWeight + r := rfl
      rw [this, ff_sw]; omega
    by_cases h0 : r = 0
    · subst h0
      rw [inv_neg, ord_inf, neg_zero, ord_00]
      simp [tr_ite, tr_ret, hw]
    · rw [if_neg h0, neg_pos (Nat.pos_of_ne_zero h0) hfin]
      have hc := core_run (b := 9223372036854775808) (by omega) (by omega) (Nat.pos_of_ne_zero h0) hfin
      have hz := ord_zero false hfin
      rw [word_pos, if_neg h0] at hz
      simp [tr_ite, hc, hz, hw]
end Go.Proofs.Pen

namespace Go.Proofs.Pen
open Go Go.Proofs

theorem same_self {b : Nat} (hn : ford (some b) (some b) = some .eq) (h0 : ford (some b) (some 0) ≠ some .eq ∨ ford (fop BinOp.quo (some 4607182418800017408) (some b)) (fop BinOp.quo (some 4607182418800017408) (some b)) = some .eq) : ref29_Same (some b, some b) = some true := by
  unfold ref29_Same ref29_Same.t
  rw [tr_ite, hn]
  rw [if_pos (by rfl), tr_ite]
  rcases h0 with h0 | h0
  · have : (ford (some b) (some 0) != some Ordering.eq) = true := by simpa using h0
    rw [this, if_pos rfl, tr_ret]
  · by_cases h1 : (ford (some b) (some 0) != some Ordering.eq) = true
    · rw [h1, if_pos rfl, tr_ret]
    · rw [if_neg h1, tr_ret, h0]; rfl

theorem fin_self {w : Nat} (h : w < 18446744073709551616) (hf : ford (fop .sub (some w) (some w)) (some 0) = some .eq) : ref29_Same (some w, some w) = some true := by
  obtain ⟨s, r, rfl, hr⟩ := word_split h
  have hfin : r < 9218868437227405312 := by
    apply Classical.byContradiction; intro hn
    rw [not_number s (by omega) hr] at hf
    exact absurd hf (by simp [ford])
  obtain ⟨m, p, e, _⟩ := read_fin s hfin
  refine same_self (order_self _ _ (by rw [e]; rfl)) ?_
  by_cases h0 : r = 0
  · subst h0
    right
    rw [inv_zero]
    refine order_self _ _ ?_
    cases s <;> decide +kernel
  · left
    rw [ord_zero s hfin, if_neg h0]
    cases s <;> simp

theorem size_ok {w h : Int} (a1 : w ≥ 1) (a2 : h ≥ 1) (a3 : w ≤ 8192) (a4 : h ≤ 8192) (a5 : W (w * h) ≤ 65536) : image_pixels (w, h) = some (w * h) ∧ image_Size (w, h) = some (W (12 + W (w * h * 28))) := by
  have hp : 1 * 1 ≤ w * h := Int.mul_le_mul a1 a2 (by omega) (by omega)
  have hq : w * h ≤ 8192 * 8192 := Int.mul_le_mul a3 a4 (by omega) (by omega)
  have hW : W (w * h) = w * h := W_id (by omega) (by omega)
  have hpx : image_pixels (w, h) = some (w * h) := by
    unfold image_pixels image_pixels.t
    have e1 : (decide ((if h < w then h else w) < 1) || decide ((if h > w then h else w) > 8192) || decide (W (w * h) > 65536)) = false := by
      have b1 : ¬ (if h < w then h else w) < 1 := by split <;> omega
      have b2 : ¬ (if h > w then h else w) > 8192 := by split <;> omega
      have b3 : ¬ W (w * h) > 65536 := by omega
      rw [decide_eq_false b1, decide_eq_false b2, decide_eq_false b3]; rfl
    rw [tr_ite]
    dsimp only
    rw [e1, if_neg (by simp), tr_ret, hW]
  refine ⟨hpx, ?_⟩
  unfold image_Size image_Size.t
  rw [tr_opt, hpx, Option.bind_some, tr_ite]
  have e2 : (w * h == 0) = false := by
    have : ¬ w * h = 0 := by omega
    simpa using this
  rw [e2, if_neg (by simp), tr_ret]

theorem size_no {w h : Int} (hc : ¬ (w ≥ 1 ∧ h ≥ 1 ∧ w ≤ 8192 ∧ h ≤ 8192 ∧ W (w * h) ≤ 65536)) : image_pixels (w, h) = some 0 ∧ image_Size (w, h) = some 0 := by
  have hpx : image_pixels (w, h) = some 0 := by
    unfold image_pixels image_pixels.t
    have e1 : (decide ((if h < w then h else w) < 1) || decide ((if h > w then h else w) > 8192) || decide (W (w * h) > 65536)) = true := by
      apply Classical.byContradiction; intro hn
      simp only [Bool.not_eq_true, Bool.or_eq_false_iff, decide_eq_false_iff_not] at hn
      obtain ⟨⟨b1, b2⟩, b3⟩ := hn
      apply hc
      refine ⟨?_, ?_, ?_, ?_, ?_⟩
      · split at b1 <;> omega
      · split at b1 <;> omega
      · split at b2 <;> omega
      · split at b2 <;> omega
      · omega
    rw [tr_ite]
    dsimp only
    rw [e1, if_pos rfl, tr_ret]
  refine ⟨hpx, ?_⟩
  unfold image_Size image_Size.t
  rw [tr_opt, hpx, Option.bind_some, tr_ite, if_pos (by rfl), tr_ret]

theorem bits_rest {b : Nat} (hb : b < 18446744073709551616) : ((T.ite (!ford (fop BinOp.sub (some b) (some b)) (some 0) == some Ordering.eq) (T.ret true) (T.ite true (T.opt (image_Bits (some b)) fun y => T.opt (ref29_Bits (some b)) fun y_1 => T.ite (y == y_1) (T.opt (ref29_Bits (some b)) fun y => T.opt (ref29_Same (some y.toNat, some b)) fun y => T.ret y) (T.ret false)) (T.ret false))) : T Bool).run = some true := by
  rw [tr_ite]
  by_cases hf : ford (fop BinOp.sub (some b) (some b)) (some 0) = some .eq
  · have e0 : (!ford (fop BinOp.sub (some b) (some b)) (some 0) == some Ordering.eq) = false := by rw [hf]; rfl
    have e1 : image_Bits (some b) = some (b : Int) := rfl
    rw [e0, if_neg (by simp), tr_ite, if_pos rfl, tr_opt, e1, Option.bind_some, tr_opt, bits_law hb hf, Option.bind_some, tr_ite]
    rw [if_pos (by simp), tr_opt, Option.bind_some, tr_opt]
    have e2 : ((b : Int)).toNat = b := by omega
    rw [e2, fin_self hb hf, Option.bind_some, tr_ret]
  · have e0 : (!ford (fop BinOp.sub (some b) (some b)) (some 0) == some Ordering.eq) = true := by simpa using hf
    rw [e0, if_pos rfl, tr_ret]

theorem imageBits_plain (x : (Option Nat) × Int × Int) (hx : insAll [.flt, .int .i64, .int .i64] x) : (law29_ImageBits.t x).run = some true := by
  obtain ⟨o, w, h⟩ := x
  obtain ⟨⟨b, rfl, hb⟩, hw, hh⟩ := hx
  have hb : b < 18446744073709551616 := hb
  have hrest := bits_rest hb
  unfold law29_ImageBits.t
  dsimp only
  rw [tr_ite]
  by_cases hc : w ≥ 1 ∧ h ≥ 1 ∧ w ≤ 8192 ∧ h ≤ 8192 ∧ W (w * h) ≤ 65536
  · obtain ⟨a1, a2, a3, a4, a5⟩ := hc
    have hs := (size_ok a1 a2 a3 a4 a5).2
    have hq : w * h ≤ 8192 * 8192 := Int.mul_le_mul a3 a4 (by omega) (by omega)
    have hp : 1 * 1 ≤ w * h := Int.mul_le_mul a1 a2 (by omega) (by omega)
    have e0 : (decide (w ≥ 1) && decide (h ≥ 1) && decide (w ≤ 8192) && decide (h ≤ 8192) && decide (W (w * h) ≤ 65536)) = true := by
      simp [a1, a2, a3, a4, a5]
    rw [e0, if_pos rfl, tr_opt, hs, Option.bind_some, tr_ite]
    have e1 : W (12 + W (w * h * 28)) = W (12 + W (W (28 * w) * h)) := by
      have c2 : W (28 * w) = 28 * w := W_id (by omega) (by omega)
      have c3 : w * h * 28 = 28 * w * h := by rw [Int.mul_comm (w * h) 28, Int.mul_assoc]
      rw [c2, c3]
    rw [e1, if_neg (by simp)]
    exact hrest
  · have hs := (size_no hc).2
    have e0 : (decide (w ≥ 1) && decide (h ≥ 1) && decide (w ≤ 8192) && decide (h ≤ 8192) && decide (W (w * h) ≤ 65536)) = false := by
      apply Classical.byContradiction; intro hn
      simp only [Bool.not_eq_false, Bool.and_eq_true, decide_eq_true_eq] at hn
      exact hc ⟨hn.1.1.1.1, hn.1.1.1.2, hn.1.1.2, hn.1.2, hn.2⟩
    rw [e0, if_neg (by simp), tr_opt, hs, Option.bind_some, tr_ite, if_neg (by simp)]
    exact hrest
end Go.Proofs.Pen

namespace Go.Proofs.Pen
open Go Go.Proofs
noncomputable def law29_few.t (x : (Int × Int × List (Option Nat) × List (Int))) : T (Bool) := T.ret (decide ((↑(List.length x.2.2.1) : Int) ≤ (200 : Int)) && decide ((↑(List.length x.2.2.2) : Int) ≤ (100 : Int)))
noncomputable def law29_few.q : List AV → T AV := entry [TPic] (outR [.bool]) law29_few.t
theorem law29_few.ok : FnOK Try.prog 10 law29_few.q :=
  entry_in (ps := [TPic]) (rs := [.bool]) (F := (dp Try.prog Xs deeps 100 8)) (D := (inL deeps.D)) (S := tabS []) (t := law29_few.t) mixed (dp_ok mixed Xok deepsOk 100 8).1 (dp_ok mixed Xok deepsOk 100 8).2 Try.func10 (by kernel_rfl) (sok_fn trivial) (by kernel_rfl) (fun x => by kernel_rfl)
end Go.Proofs.Pen

namespace Go.Proofs.Pen
open Go Go.Proofs
noncomputable def image_may_1.t (x : Int) : T (Bool) := T.ret (decide (x < (0 : Int)) || decide (x > (2147483647 : Int)))
noncomputable def image_may_1.q : List AV → T AV := entry [TI] (outR [.bool]) image_may_1.t
theorem image_may_1.ok : FnOK Try.prog 98 image_may_1.q :=
  entry_in (ps := [TI]) (rs := [.bool]) (F := (dp Try.prog Xs deeps 100 8)) (D := (inL deeps.D)) (S := tabS []) (t := image_may_1.t) mixed (dp_ok mixed Xok deepsOk 100 8).1 (dp_ok mixed Xok deepsOk 100 8).2 Try.func98 (by kernel_rfl) (sok_fn trivial) (by kernel_rfl) (fun x => by kernel_rfl)
end Go.Proofs.Pen

namespace Go.Proofs.Pen
open Go Go.Proofs
noncomputable def vec_Number.t (x : (Option Nat)) : T (Bool) := T.ret ((ford x (some (18442240474082181119 : Nat)) == some Ordering.gt || ford x (some (18442240474082181119 : Nat)) == some Ordering.eq) && (ford x (some (9218868437227405311 : Nat)) == some Ordering.lt || ford x (some (9218868437227405311 : Nat)) == some Ordering.eq))
noncomputable def vec_Number.q : List AV → T AV := entry [.flt] (outR [.bool]) vec_Number.t
theorem vec_Number.ok : FnOK Try.prog 100 vec_Number.q :=
  entry_in (ps := [.flt]) (rs := [.bool]) (F := (dp Try.prog Xs deeps 100 8)) (D := (inL deeps.D)) (S := tabS []) (t := vec_Number.t) mixed (dp_ok mixed Xok deepsOk 100 8).1 (dp_ok mixed Xok deepsOk 100 8).2 Try.func100 (by kernel_rfl) (sok_fn trivial) (by kernel_rfl) (fun x => by kernel_rfl)
end Go.Proofs.Pen

namespace Go.Proofs.Pen
open Go Go.Proofs
noncomputable def image_may_2.t (x : (Option Nat)) : T (Bool) := T.ret !((ford x (some (18442240474082181119 : Nat)) == some Ordering.gt || ford x (some (18442240474082181119 : Nat)) == some Ordering.eq) && (ford x (some (9218868437227405311 : Nat)) == some Ordering.lt || ford x (some (9218868437227405311 : Nat)) == some Ordering.eq))
noncomputable def image_may_2.q : List AV → T AV := entry [.flt] (outR [.bool]) image_may_2.t
theorem image_may_2.ok : FnOK Try.prog 99 image_may_2.q :=
  entry_in (ps := [.flt]) (rs := [.bool]) (F := (dp Try.prog (ext Xs 100 vec_Number.q) deeps 100 8)) (D := (inL deeps.D)) (S := tabS []) (t := image_may_2.t) mixed (dp_ok mixed (quiet_ext Xok vec_Number.ok) deepsOk 100 8).1 (dp_ok mixed (quiet_ext Xok vec_Number.ok) deepsOk 100 8).2 Try.func99 (by kernel_rfl) (sok_fn trivial) (by kernel_rfl) (fun x => by kernel_rfl)
end Go.Proofs.Pen

namespace Go.Proofs.Pen
open Go Go.Proofs
def IdxF.L0 : List (Nat × Lay) := [(0, .val (.sl .flt)), (1, .val (.clo 99 .unit)), (4, .val TI), (7, .val TI), (8, .val TI)]
noncomputable def IdxF.t0 (x : (List (Option Nat)) × Unit × Int × Int × Int × Unit) : T (Ex × (List (Option Nat)) × Unit × Int × Int × Int × Unit) := T.ite (decide (x.2.2.2.2.1 < x.2.2.2.1)) (T.opt (lget x.1 x.2.2.2.2.1) fun y => T.ite (!((ford y (some (18442240474082181119 : Nat)) == some Ordering.gt || ford y (some (18442240474082181119 : Nat)) == some Ordering.eq) && (ford y (some (9218868437227405311 : Nat)) == some Ordering.lt || ford y (some (9218868437227405311 : Nat)) == some Ordering.eq))) (T.ret (Ex.ret, x.1, (), x.2.2.2.2.1, x.2.2.2.1, x.2.2.2.2.1, ())) (T.ret (Ex.normal, x.1, (), x.2.2.1, x.2.2.2.1, W (x.2.2.2.2.1 + (1 : Int)), ()))) (T.ret (Ex.exit (0 : Nat), x.1, (), x.2.2.1, x.2.2.2.1, x.2.2.2.2.1, ()))
noncomputable def IdxF.l0 (x : (List (Option Nat)) × Unit × Int × Int × Int × Unit) : Option (Ex × (List (Option Nat)) × Unit × Int × Int × Int × Unit) := (iterT IdxF.t0 rounds x).run
theorem IdxF.k0 : bodies 0 (lp Try.f131 []) = [.loop (loopIn 0 (lp Try.f131 []))] ∧ WP Try.prog 0 (.block 0 (.loop (loopIn 0 (lp Try.f131 [])))) (loopS IdxF.L0 19 0 [.exit 0, .ret] IdxF.l0) :=
  loop_tree (L := IdxF.L0) (F := (dp Try.prog (ext Xs 99 image_may_2.q) deeps 100 8)) (D := (inL deeps.D)) (tab := []) (t := IdxF.t0) mixed (dp_ok mixed (quiet_ext Xok image_may_2.ok) deepsOk 100 8).1 (dp_ok mixed (quiet_ext Xok image_may_2.ok) deepsOk 100 8).2 (fun _ => rfl) (by kernel_rfl) (by kernel_rfl) trivial (fun x => by kernel_rfl)
noncomputable def IdxF.t (x : (List (Option Nat)) × Unit) : T (Int) := T.opt (IdxF.l0 (x.1, (), (0 : Int), (↑(List.length x.1) : Int), (0 : Int), ())) fun y => T.ite (exEq y.1 (Ex.exit (0 : Nat))) (T.ret (-1 : Int)) (T.ite (exEq y.1 Ex.ret) (T.ret y.2.2.2.1) T.fail)
noncomputable def IdxF (x : (List (Option Nat)) × Unit) : Option (Int) := (IdxF.t x).run
noncomputable def IdxF.q : List AV → T AV := entry [(.sl .flt), (.clo 99 .unit)] (outR [TI]) fun x => .opt (IdxF x) .ret
theorem IdxF.ok : FnOK Try.prog 131 IdxF.q :=
  entry_call (ps := [(.sl .flt), (.clo 99 .unit)]) (rs := [TI]) (F := (dp Try.prog (ext Xs 99 image_may_2.q) deeps 100 8)) (D := (inL deeps.D)) (S := tabS [(0, loopS IdxF.L0 19 0 [.exit 0, .ret] IdxF.l0)]) (t := IdxF.t) mixed (dp_ok mixed (quiet_ext Xok image_may_2.ok) deepsOk 100 8).1 (dp_ok mixed (quiet_ext Xok image_may_2.ok) deepsOk 100 8).2 Try.func131 (by kernel_rfl) (sok_fn ⟨IdxF.k0, trivial⟩) (by kernel_rfl) (fun x => by kernel_rfl)
end Go.Proofs.Pen

namespace Go.Proofs.Pen
open Go Go.Proofs
noncomputable def ConF.t (x : (List (Option Nat)) × Unit) : T (Bool) := T.opt (IdxF (x.1, ())) fun y => T.ret (decide (y ≥ (0 : Int)))
noncomputable def ConF (x : (List (Option Nat)) × Unit) : Option (Bool) := (ConF.t x).run
noncomputable def ConF.q : List AV → T AV := entry [(.sl .flt), (.clo 99 .unit)] (outR [.bool]) fun x => .opt (ConF x) .ret
theorem ConF.ok : FnOK Try.prog 101 ConF.q :=
  entry_call (ps := [(.sl .flt), (.clo 99 .unit)]) (rs := [.bool]) (F := (dp Try.prog (ext (ext Xs 131 IdxF.q) 99 image_may_2.q) deeps 100 8)) (D := (inL deeps.D)) (S := tabS []) (t := ConF.t) mixed (dp_ok mixed (quiet_ext (quiet_ext Xok IdxF.ok) image_may_2.ok) deepsOk 100 8).1 (dp_ok mixed (quiet_ext (quiet_ext Xok IdxF.ok) image_may_2.ok) deepsOk 100 8).2 Try.func101 (by kernel_rfl) (sok_fn trivial) (by kernel_rfl) (fun x => by kernel_rfl)
end Go.Proofs.Pen

namespace Go.Proofs.Pen
open Go Go.Proofs
def IdxI.L0 : List (Nat × Lay) := [(0, .val (.sl (.int .i64))), (1, .val (.clo 98 .unit)), (4, .val TI), (7, .val TI), (8, .val TI)]
noncomputable def IdxI.t0 (x : (List (Int)) × Unit × Int × Int × Int × Unit) : T (Ex × (List (Int)) × Unit × Int × Int × Int × Unit) := T.ite (decide (x.2.2.2.2.1 < x.2.2.2.1)) (T.opt (lget x.1 x.2.2.2.2.1) fun y => T.ite (decide (y < (0 : Int)) || decide (y > (2147483647 : Int))) (T.ret (Ex.ret, x.1, (), x.2.2.2.2.1, x.2.2.2.1, x.2.2.2.2.1, ())) (T.ret (Ex.normal, x.1, (), x.2.2.1, x.2.2.2.1, W (x.2.2.2.2.1 + (1 : Int)), ()))) (T.ret (Ex.exit (0 : Nat), x.1, (), x.2.2.1, x.2.2.2.1, x.2.2.2.2.1, ()))
noncomputable def IdxI.l0 (x : (List (Int)) × Unit × Int × Int × Int × Unit) : Option (Ex × (List (Int)) × Unit × Int × Int × Int × Unit) := (iterT IdxI.t0 rounds x).run
theorem IdxI.k0 : bodies 0 (lp Try.f132 []) = [.loop (loopIn 0 (lp Try.f132 []))] ∧ WP Try.prog 0 (.block 0 (.loop (loopIn 0 (lp Try.f132 [])))) (loopS IdxI.L0 19 0 [.exit 0, .ret] IdxI.l0) :=
  loop_tree (L := IdxI.L0) (F := (dp Try.prog (ext Xs 98 image_may_1.q) deeps 100 8)) (D := (inL deeps.D)) (tab := []) (t := IdxI.t0) mixed (dp_ok mixed (quiet_ext Xok image_may_1.ok) deepsOk 100 8).1 (dp_ok mixed (quiet_ext Xok image_may_1.ok) deepsOk 100 8).2 (fun _ => rfl) (by kernel_rfl) (by kernel_rfl) trivial (fun x => by kernel_rfl)
noncomputable def IdxI.t (x : (List (Int)) × Unit) : T (Int) := T.opt (IdxI.l0 (x.1, (), (0 : Int), (↑(List.length x.1) : Int), (0 : Int), ())) fun y => T.ite (exEq y.1 (Ex.exit (0 : Nat))) (T.ret (-1 : Int)) (T.ite (exEq y.1 Ex.ret) (T.ret y.2.2.2.1) T.fail)
noncomputable def IdxI (x : (List (Int)) × Unit) : Option (Int) := (IdxI.t x).run
noncomputable def IdxI.q : List AV → T AV := entry [(.sl (.int .i64)), (.clo 98 .unit)] (outR [TI]) fun x => .opt (IdxI x) .ret
theorem IdxI.ok : FnOK Try.prog 132 IdxI.q :=
  entry_call (ps := [(.sl (.int .i64)), (.clo 98 .unit)]) (rs := [TI]) (F := (dp Try.prog (ext Xs 98 image_may_1.q) deeps 100 8)) (D := (inL deeps.D)) (S := tabS [(0, loopS IdxI.L0 19 0 [.exit 0, .ret] IdxI.l0)]) (t := IdxI.t) mixed (dp_ok mixed (quiet_ext Xok image_may_1.ok) deepsOk 100 8).1 (dp_ok mixed (quiet_ext Xok image_may_1.ok) deepsOk 100 8).2 Try.func132 (by kernel_rfl) (sok_fn ⟨IdxI.k0, trivial⟩) (by kernel_rfl) (fun x => by kernel_rfl)
end Go.Proofs.Pen

namespace Go.Proofs.Pen
open Go Go.Proofs
noncomputable def ConI.t (x : (List (Int)) × Unit) : T (Bool) := T.opt (IdxI (x.1, ())) fun y => T.ret (decide (y ≥ (0 : Int)))
noncomputable def ConI (x : (List (Int)) × Unit) : Option (Bool) := (ConI.t x).run
noncomputable def ConI.q : List AV → T AV := entry [(.sl (.int .i64)), (.clo 98 .unit)] (outR [.bool]) fun x => .opt (ConI x) .ret
theorem ConI.ok : FnOK Try.prog 102 ConI.q :=
  entry_call (ps := [(.sl (.int .i64)), (.clo 98 .unit)]) (rs := [.bool]) (F := (dp Try.prog (ext (ext Xs 132 IdxI.q) 98 image_may_1.q) deeps 100 8)) (D := (inL deeps.D)) (S := tabS []) (t := ConI.t) mixed (dp_ok mixed (quiet_ext (quiet_ext Xok IdxI.ok) image_may_1.ok) deepsOk 100 8).1 (dp_ok mixed (quiet_ext (quiet_ext Xok IdxI.ok) image_may_1.ok) deepsOk 100 8).2 Try.func102 (by kernel_rfl) (sok_fn trivial) (by kernel_rfl) (fun x => by kernel_rfl)
end Go.Proofs.Pen

namespace Go.Proofs.Pen
open Go Go.Proofs
noncomputable def image_may.t (x : (Int × Int × List (Option Nat) × List (Int))) : T (Bool) := T.opt (image_pixels (x.1, x.2.1)) fun y => T.ite (y == (0 : Int) || (↑(List.length x.2.2.1) : Int) != W ((3 : Int) * y) || (↑(List.length x.2.2.2) : Int) != y) (T.ret false) (T.opt (ConF (x.2.2.1, ())) fun y => T.ite (!y) (T.opt (ConI (x.2.2.2, ())) fun y => T.ret !y) (T.ret false))
noncomputable def image_may (x : (Int × Int × List (Option Nat) × List (Int))) : Option (Bool) := (image_may.t x).run
noncomputable def image_may.q : List AV → T AV := entry [TPic] (outR [.bool]) fun x => .opt (image_may x) .ret
theorem image_may.ok : FnOK Try.prog 54 image_may.q :=
  entry_call (ps := [TPic]) (rs := [.bool]) (F := (dp Try.prog (ext (ext (ext (ext (ext Xs 57 image_pixels.q) 98 image_may_1.q) 99 image_may_2.q) 101 ConF.q) 102 ConI.q) deeps 100 8)) (D := (inL deeps.D)) (S := tabS []) (t := image_may.t) mixed (dp_ok mixed (quiet_ext (quiet_ext (quiet_ext (quiet_ext (quiet_ext Xok image_pixels.ok) image_may_1.ok) image_may_2.ok) ConF.ok) ConI.ok) deepsOk 100 8).1 (dp_ok mixed (quiet_ext (quiet_ext (quiet_ext (quiet_ext (quiet_ext Xok image_pixels.ok) image_may_1.ok) image_may_2.ok) ConF.ok) ConI.ok) deepsOk 100 8).2 Try.func54 (by kernel_rfl) (sok_fn trivial) (by kernel_rfl) (fun x => by kernel_rfl)
end Go.Proofs.Pen

namespace Go.Proofs.Pen
open Go Go.Proofs
def image_Encode.L0 : List (Nat × Lay) := [(1, .box TPic), (4, .row (.int .u8)), (23, .val (.sl .flt)), (24, .val TI), (25, .val TI)]
noncomputable def image_Encode.t0 (x : (Int × Int × List (Option Nat) × List (Int)) × List Int × (List (Option Nat)) × Int × Int × Unit) : T (Ex × (Int × Int × List (Option Nat) × List (Int)) × List Int × (List (Option Nat)) × Int × Int × Unit) := T.ite (decide (x.2.2.2.2.1 < x.2.2.2.1)) (T.opt (lget x.2.2.1 x.2.2.2.2.1) fun y => T.opt (image_Bits y) fun y => T.ite (decide (W ((8 : Int) * W ((8 : Int) - (1 : Int))) < (0 : Int))) T.fail (T.ite (decide ((x.2.1.length + (1 : Nat)) * nat_lit 1 ≤ most)) (T.ite (decide (W ((8 : Int) * W (W ((8 : Int) - (1 : Int)) - (1 : Int))) < (0 : Int))) T.fail (T.ite (decide ((x.2.1.length + (1 : Nat) + (1 : Nat)) * nat_lit 1 ≤ most)) (T.ite (decide (W ((8 : Int) * W (W (W ((8 : Int) - (1 : Int)) - (1 : Int)) - (1 : Int))) < (0 : Int))) T.fail (T.ite (decide ((x.2.1.length + (1 : Nat) + (1 : Nat) + (1 : Nat)) * nat_lit 1 ≤ most)) (T.ite (decide (W ((8 : Int) * W (W (W (W ((8 : Int) - (1 : Int)) - (1 : Int)) - (1 : Int)) - (1 : Int))) < (0 : Int))) T.fail (T.ite (decide ((x.2.1.length + (1 : Nat) + (1 : Nat) + (1 : Nat) + (1 : Nat)) * nat_lit 1 ≤ most)) (T.ite (decide (W ((8 : Int) * W (W (W (W (W ((8 : Int) - (1 : Int)) - (1 : Int)) - (1 : Int)) - (1 : Int)) - (1 : Int))) < (0 : Int))) T.fail (T.ite (decide ((x.2.1.length + (1 : Nat) + (1 : Nat) + (1 : Nat) + (1 : Nat) + (1 : Nat)) * nat_lit 1 ≤ most)) (T.ite (decide (W ((8 : Int) * W (W (W (W (W (W ((8 : Int) - (1 : Int)) - (1 : Int)) - (1 : Int)) - (1 : Int)) - (1 : Int)) - (1 : Int))) < (0 : Int))) T.fail (T.ite (decide ((x.2.1.length + (1 : Nat) + (1 : Nat) + (1 : Nat) + (1 : Nat) + (1 : Nat) + (1 : Nat)) * nat_lit 1 ≤ most)) (T.ite (decide (W ((8 : Int) * W (W (W (W (W (W (W ((8 : Int) - (1 : Int)) - (1 : Int)) - (1 : Int)) - (1 : Int)) - (1 : Int)) - (1 : Int)) - (1 : Int))) < (0 : Int))) T.fail (T.ite (decide ((x.2.1.length + (1 : Nat) + (1 : Nat) + (1 : Nat) + (1 : Nat) + (1 : Nat) + (1 : Nat) + (1 : Nat)) * nat_lit 1 ≤ most)) (T.ite (decide (W ((8 : Int) * W (W (W (W (W (W (W (W ((8 : Int) - (1 : Int)) - (1 : Int)) - (1 : Int)) - (1 : Int)) - (1 : Int)) - (1 : Int)) - (1 : Int)) - (1 : Int))) < (0 : Int))) T.fail (T.ite (decide ((x.2.1.length + (1 : Nat) + (1 : Nat) + (1 : Nat) + (1 : Nat) + (1 : Nat) + (1 : Nat) + (1 : Nat) + (1 : Nat)) * nat_lit 1 ≤ most)) (T.ret (Ex.normal, x.1, List.take (x.2.1.length + (1 : Nat) + (1 : Nat) + (1 : Nat) + (1 : Nat) + (1 : Nat) + (1 : Nat) + (1 : Nat) + (1 : Nat)) (List.take (x.2.1.length + (1 : Nat) + (1 : Nat) + (1 : Nat) + (1 : Nat) + (1 : Nat) + (1 : Nat) + (1 : Nat)) (List.take (x.2.1.length + (1 : Nat) + (1 : Nat) + (1 : Nat) + (1 : Nat) + (1 : Nat) + (1 : Nat)) (List.take (x.2.1.length + (1 : Nat) + (1 : Nat) + (1 : Nat) + (1 : Nat) + (1 : Nat)) (List.take (x.2.1.length + (1 : Nat) + (1 : Nat) + (1 : Nat) + (1 : Nat)) (List.take (x.2.1.length + (1 : Nat) + (1 : Nat) + (1 : Nat)) (List.take (x.2.1.length + (1 : Nat) + (1 : Nat)) (List.take (x.2.1.length + (1 : Nat)) (List.take x.2.1.length x.2.1 ++ [IntKind.u8.wrap (y.fdiv ((2 : Int) ^ min (W ((8 : Int) * W ((8 : Int) - (1 : Int)))).toNat IntKind.u64.bits))]) ++ [IntKind.u8.wrap (y.fdiv ((2 : Int) ^ min (W ((8 : Int) * W (W ((8 : Int) - (1 : Int)) - (1 : Int)))).toNat IntKind.u64.bits))]) ++ [IntKind.u8.wrap (y.fdiv ((2 : Int) ^ min (W ((8 : Int) * W (W (W ((8 : Int) - (1 : Int)) - (1 : Int)) - (1 : Int)))).toNat IntKind.u64.bits))]) ++ [IntKind.u8.wrap (y.fdiv ((2 : Int) ^ min (W ((8 : Int) * W (W (W (W ((8 : Int) - (1 : Int)) - (1 : Int)) - (1 : Int)) - (1 : Int)))).toNat IntKind.u64.bits))]) ++ [IntKind.u8.wrap (y.fdiv ((2 : Int) ^ min (W ((8 : Int) * W (W (W (W (W ((8 : Int) - (1 : Int)) - (1 : Int)) - (1 : Int)) - (1 : Int)) - (1 : Int)))).toNat IntKind.u64.bits))]) ++ [IntKind.u8.wrap (y.fdiv ((2 : Int) ^ min (W ((8 : Int) * W (W (W (W (W (W ((8 : Int) - (1 : Int)) - (1 : Int)) - (1 : Int)) - (1 : Int)) - (1 : Int)) - (1 : Int)))).toNat IntKind.u64.bits))]) ++ [IntKind.u8.wrap (y.fdiv ((2 : Int) ^ min (W ((8 : Int) * W (W (W (W (W (W (W ((8 : Int) - (1 : Int)) - (1 : Int)) - (1 : Int)) - (1 : Int)) - (1 : Int)) - (1 : Int)) - (1 : Int)))).toNat IntKind.u64.bits))]) ++ [IntKind.u8.wrap (y.fdiv ((2 : Int) ^ min (W ((8 : Int) * W (W (W (W (W (W (W (W ((8 : Int) - (1 : Int)) - (1 : Int)) - (1 : Int)) - (1 : Int)) - (1 : Int)) - (1 : Int)) - (1 : Int)) - (1 : Int)))).toNat IntKind.u64.bits))]), x.2.2.1, x.2.2.2.1, W (x.2.2.2.2.1 + (1 : Int)), ())) T.fail)) T.fail)) T.fail)) T.fail)) T.fail)) T.fail)) T.fail)) T.fail)) (T.ret (Ex.exit (0 : Nat), x.1, List.take x.2.1.length x.2.1, x.2.2.1, x.2.2.2.1, x.2.2.2.2.1, ()))
noncomputable def image_Encode.l0 (x : (Int × Int × List (Option Nat) × List (Int)) × List Int × (List (Option Nat)) × Int × Int × Unit) : Option (Ex × (Int × Int × List (Option Nat) × List (Int)) × List Int × (List (Option Nat)) × Int × Int × Unit) := (iterT image_Encode.t0 rounds x).run
theorem image_Encode.k0 : bodies 0 (lp Try.f12 []) = [.loop (loopIn 0 (lp Try.f12 []))] ∧ WP Try.prog 0 (.block 0 (.loop (loopIn 0 (lp Try.f12 [])))) (loopS image_Encode.L0 48 0 [.exit 0] image_Encode.l0) :=
  loop_tree (L := image_Encode.L0) (F := (dp Try.prog (ext (ext (ext (ext Xs 54 image_may.q) 21 image_Bits.q) 98 image_may_1.q) 99 image_may_2.q) deeps 100 8)) (D := (inL deeps.D)) (tab := []) (t := image_Encode.t0) mixed (dp_ok mixed (quiet_ext (quiet_ext (quiet_ext (quiet_ext Xok image_may.ok) image_Bits.ok) image_may_1.ok) image_may_2.ok) deepsOk 100 8).1 (dp_ok mixed (quiet_ext (quiet_ext (quiet_ext (quiet_ext Xok image_may.ok) image_Bits.ok) image_may_1.ok) image_may_2.ok) deepsOk 100 8).2 (fun _ => rfl) (by kernel_rfl) (by kernel_rfl) trivial (fun x => by kernel_rfl)
def image_Encode.L2 : List (Nat × Lay) := [(4, .row (.int .u8)), (35, .val (.sl TI)), (36, .val TI), (37, .val TI)]
noncomputable def image_Encode.t2 (x : List Int × (List (Int)) × Int × Int × Unit) : T (Ex × List Int × (List (Int)) × Int × Int × Unit) := T.ite (decide (x.2.2.2.1 < x.2.2.1)) (T.opt (lget x.2.1 x.2.2.2.1) fun y => T.ite (decide (W ((8 : Int) * W ((4 : Int) - (1 : Int))) < (0 : Int))) T.fail (T.ite (decide ((x.1.length + (1 : Nat)) * nat_lit 1 ≤ most)) (T.ite (decide (W ((8 : Int) * W (W ((4 : Int) - (1 : Int)) - (1 : Int))) < (0 : Int))) T.fail (T.ite (decide ((x.1.length + (1 : Nat) + (1 : Nat)) * nat_lit 1 ≤ most)) (T.ite (decide (W ((8 : Int) * W (W (W ((4 : Int) - (1 : Int)) - (1 : Int)) - (1 : Int))) < (0 : Int))) T.fail (T.ite (decide ((x.1.length + (1 : Nat) + (1 : Nat) + (1 : Nat)) * nat_lit 1 ≤ most)) (T.ite (decide (W ((8 : Int) * W (W (W (W ((4 : Int) - (1 : Int)) - (1 : Int)) - (1 : Int)) - (1 : Int))) < (0 : Int))) T.fail (T.ite (decide ((x.1.length + (1 : Nat) + (1 : Nat) + (1 : Nat) + (1 : Nat)) * nat_lit 1 ≤ most)) (T.ret (Ex.normal, List.take (x.1.length + (1 : Nat) + (1 : Nat) + (1 : Nat) + (1 : Nat)) (List.take (x.1.length + (1 : Nat) + (1 : Nat) + (1 : Nat)) (List.take (x.1.length + (1 : Nat) + (1 : Nat)) (List.take (x.1.length + (1 : Nat)) (List.take x.1.length x.1 ++ [IntKind.u8.wrap ((IntKind.u64.wrap y).fdiv ((2 : Int) ^ min (W ((8 : Int) * W ((4 : Int) - (1 : Int)))).toNat IntKind.u64.bits))]) ++ [IntKind.u8.wrap ((IntKind.u64.wrap y).fdiv ((2 : Int) ^ min (W ((8 : Int) * W (W ((4 : Int) - (1 : Int)) - (1 : Int)))).toNat IntKind.u64.bits))]) ++ [IntKind.u8.wrap ((IntKind.u64.wrap y).fdiv ((2 : Int) ^ min (W ((8 : Int) * W (W (W ((4 : Int) - (1 : Int)) - (1 : Int)) - (1 : Int)))).toNat IntKind.u64.bits))]) ++ [IntKind.u8.wrap ((IntKind.u64.wrap y).fdiv ((2 : Int) ^ min (W ((8 : Int) * W (W (W (W ((4 : Int) - (1 : Int)) - (1 : Int)) - (1 : Int)) - (1 : Int)))).toNat IntKind.u64.bits))]), x.2.1, x.2.2.1, W (x.2.2.2.1 + (1 : Int)), ())) T.fail)) T.fail)) T.fail)) T.fail)) (T.ret (Ex.exit (2 : Nat), List.take x.1.length x.1, x.2.1, x.2.2.1, x.2.2.2.1, ()))
noncomputable def image_Encode.l2 (x : List Int × (List (Int)) × Int × Int × Unit) : Option (Ex × List Int × (List (Int)) × Int × Int × Unit) := (iterT image_Encode.t2 rounds x).run
theorem image_Encode.k2 : bodies 2 (lp Try.f12 []) = [.loop (loopIn 2 (lp Try.f12 []))] ∧ WP Try.prog 0 (.block 2 (.loop (loopIn 2 (lp Try.f12 [])))) (loopS image_Encode.L2 48 2 [.exit 2] image_Encode.l2) :=
  loop_tree (L := image_Encode.L2) (F := (dp Try.prog (ext (ext (ext (ext Xs 54 image_may.q) 21 image_Bits.q) 98 image_may_1.q) 99 image_may_2.q) deeps 100 8)) (D := (inL deeps.D)) (tab := []) (t := image_Encode.t2) mixed (dp_ok mixed (quiet_ext (quiet_ext (quiet_ext (quiet_ext Xok image_may.ok) image_Bits.ok) image_may_1.ok) image_may_2.ok) deepsOk 100 8).1 (dp_ok mixed (quiet_ext (quiet_ext (quiet_ext (quiet_ext Xok image_may.ok) image_Bits.ok) image_may_1.ok) image_may_2.ok) deepsOk 100 8).2 (fun _ => rfl) (by kernel_rfl) (by kernel_rfl) trivial (fun x => by kernel_rfl)
noncomputable def image_Encode.t (x : (Int × Int × List (Option Nat) × List (Int))) : T (ByteArray × Int) := T.opt (image_may x) fun y => T.ite (!y) (T.ret ((ByteArray.mk #[]), (2 : Int))) (T.ite (decide (W ((8 : Int) * W ((4 : Int) - (1 : Int))) < (0 : Int))) T.fail (T.ite (decide (((4 : Nat) + (1 : Nat)) * nat_lit 1 ≤ most)) (T.ite (decide (W ((8 : Int) * W (W ((4 : Int) - (1 : Int)) - (1 : Int))) < (0 : Int))) T.fail (T.ite (decide (((4 : Nat) + (1 : Nat) + (1 : Nat)) * nat_lit 1 ≤ most)) (T.ite (decide (W ((8 : Int) * W (W (W ((4 : Int) - (1 : Int)) - (1 : Int)) - (1 : Int))) < (0 : Int))) T.fail (T.ite (decide (((4 : Nat) + (1 : Nat) + (1 : Nat) + (1 : Nat)) * nat_lit 1 ≤ most)) (T.ite (decide (W ((8 : Int) * W (W (W (W ((4 : Int) - (1 : Int)) - (1 : Int)) - (1 : Int)) - (1 : Int))) < (0 : Int))) T.fail (T.ite (decide (((4 : Nat) + (1 : Nat) + (1 : Nat) + (1 : Nat) + (1 : Nat)) * nat_lit 1 ≤ most)) (T.ite (decide (W ((8 : Int) * W ((4 : Int) - (1 : Int))) < (0 : Int))) T.fail (T.ite (decide (((4 : Nat) + (1 : Nat) + (1 : Nat) + (1 : Nat) + (1 : Nat) + (1 : Nat)) * nat_lit 1 ≤ most)) (T.ite (decide (W ((8 : Int) * W (W ((4 : Int) - (1 : Int)) - (1 : Int))) < (0 : Int))) T.fail (T.ite (decide (((4 : Nat) + (1 : Nat) + (1 : Nat) + (1 : Nat) + (1 : Nat) + (1 : Nat) + (1 : Nat)) * nat_lit 1 ≤ most)) (T.ite (decide (W ((8 : Int) * W (W (W ((4 : Int) - (1 : Int)) - (1 : Int)) - (1 : Int))) < (0 : Int))) T.fail (T.ite (decide (((4 : Nat) + (1 : Nat) + (1 : Nat) + (1 : Nat) + (1 : Nat) + (1 : Nat) + (1 : Nat) + (1 : Nat)) * nat_lit 1 ≤ most)) (T.ite (decide (W ((8 : Int) * W (W (W (W ((4 : Int) - (1 : Int)) - (1 : Int)) - (1 : Int)) - (1 : Int))) < (0 : Int))) T.fail (T.ite (decide (((4 : Nat) + (1 : Nat) + (1 : Nat) + (1 : Nat) + (1 : Nat) + (1 : Nat) + (1 : Nat) + (1 : Nat) + (1 : Nat)) * nat_lit 1 ≤ most)) (T.opt (image_Encode.l0 (x, List.take ((4 : Nat) + (1 : Nat) + (1 : Nat) + (1 : Nat) + (1 : Nat) + (1 : Nat) + (1 : Nat) + (1 : Nat) + (1 : Nat)) (List.take ((4 : Nat) + (1 : Nat) + (1 : Nat) + (1 : Nat) + (1 : Nat) + (1 : Nat) + (1 : Nat) + (1 : Nat)) (List.take ((4 : Nat) + (1 : Nat) + (1 : Nat) + (1 : Nat) + (1 : Nat) + (1 : Nat) + (1 : Nat)) (List.take ((4 : Nat) + (1 : Nat) + (1 : Nat) + (1 : Nat) + (1 : Nat) + (1 : Nat)) (List.take ((4 : Nat) + (1 : Nat) + (1 : Nat) + (1 : Nat) + (1 : Nat)) (List.take ((4 : Nat) + (1 : Nat) + (1 : Nat) + (1 : Nat)) (List.take ((4 : Nat) + (1 : Nat) + (1 : Nat)) (List.take ((4 : Nat) + (1 : Nat)) (List.take (4 : Nat) [(80 : Int), (78 : Int), (66 : Int), (1 : Int)] ++ [IntKind.u8.wrap ((IntKind.u64.wrap x.1).fdiv ((2 : Int) ^ min (W ((8 : Int) * W ((4 : Int) - (1 : Int)))).toNat IntKind.u64.bits))]) ++ [IntKind.u8.wrap ((IntKind.u64.wrap x.1).fdiv ((2 : Int) ^ min (W ((8 : Int) * W (W ((4 : Int) - (1 : Int)) - (1 : Int)))).toNat IntKind.u64.bits))]) ++ [IntKind.u8.wrap ((IntKind.u64.wrap x.1).fdiv ((2 : Int) ^ min (W ((8 : Int) * W (W (W ((4 : Int) - (1 : Int)) - (1 : Int)) - (1 : Int)))).toNat IntKind.u64.bits))]) ++ [IntKind.u8.wrap ((IntKind.u64.wrap x.1).fdiv ((2 : Int) ^ min (W ((8 : Int) * W (W (W (W ((4 : Int) - (1 : Int)) - (1 : Int)) - (1 : Int)) - (1 : Int)))).toNat IntKind.u64.bits))]) ++ [IntKind.u8.wrap ((IntKind.u64.wrap x.2.1).fdiv ((2 : Int) ^ min (W ((8 : Int) * W ((4 : Int) - (1 : Int)))).toNat IntKind.u64.bits))]) ++ [IntKind.u8.wrap ((IntKind.u64.wrap x.2.1).fdiv ((2 : Int) ^ min (W ((8 : Int) * W (W ((4 : Int) - (1 : Int)) - (1 : Int)))).toNat IntKind.u64.bits))]) ++ [IntKind.u8.wrap ((IntKind.u64.wrap x.2.1).fdiv ((2 : Int) ^ min (W ((8 : Int) * W (W (W ((4 : Int) - (1 : Int)) - (1 : Int)) - (1 : Int)))).toNat IntKind.u64.bits))]) ++ [IntKind.u8.wrap ((IntKind.u64.wrap x.2.1).fdiv ((2 : Int) ^ min (W ((8 : Int) * W (W (W (W ((4 : Int) - (1 : Int)) - (1 : Int)) - (1 : Int)) - (1 : Int)))).toNat IntKind.u64.bits))]), x.2.2.1, (↑(List.length x.2.2.1) : Int), (0 : Int), ())) fun y => T.ite (exEq y.1 (Ex.exit (0 : Nat))) (T.opt (image_Encode.l2 (List.take y.2.2.1.length y.2.2.1, y.2.1.2.2.2, (↑(List.length y.2.1.2.2.2) : Int), (0 : Int), ())) fun y => T.ite (exEq y.1 (Ex.exit (2 : Nat))) (T.ret (ofBytes (List.take y.2.1.length y.2.1), (0 : Int))) T.fail) T.fail) T.fail)) T.fail)) T.fail)) T.fail)) T.fail)) T.fail)) T.fail)) T.fail))
noncomputable def image_Encode (x : (Int × Int × List (Option Nat) × List (Int))) : Option (ByteArray × Int) := (image_Encode.t x).run
noncomputable def image_Encode.q : List AV → T AV := entry [TPic] (outR [.str, TI]) fun x => .opt (image_Encode x) .ret
theorem image_Encode.ok : FnOK Try.prog 12 image_Encode.q :=
  entry_call (ps := [TPic]) (rs := [.str, TI]) (F := (dp Try.prog (ext (ext (ext (ext Xs 54 image_may.q) 21 image_Bits.q) 98 image_may_1.q) 99 image_may_2.q) deeps 100 8)) (D := (inL deeps.D)) (S := tabS [(0, loopS image_Encode.L0 48 0 [.exit 0] image_Encode.l0), (2, loopS image_Encode.L2 48 2 [.exit 2] image_Encode.l2)]) (t := image_Encode.t) mixed (dp_ok mixed (quiet_ext (quiet_ext (quiet_ext (quiet_ext Xok image_may.ok) image_Bits.ok) image_may_1.ok) image_may_2.ok) deepsOk 100 8).1 (dp_ok mixed (quiet_ext (quiet_ext (quiet_ext (quiet_ext Xok image_may.ok) image_Bits.ok) image_may_1.ok) image_may_2.ok) deepsOk 100 8).2 Try.func12 (by kernel_rfl) (sok_fn ⟨image_Encode.k0, image_Encode.k2, trivial⟩) (by kernel_rfl) (fun x => by kernel_rfl)
end Go.Proofs.Pen

namespace Go.Proofs.Pen
open Go Go.Proofs
def ref29_May.L0 : List (Nat × Lay) := [(1, .box TPic), (2, .val .bool), (3, .val TI)]
noncomputable def ref29_May.t0 (x : (Int × Int × List (Option Nat) × List (Int)) × Bool × Int × Unit) : T (Ex × (Int × Int × List (Option Nat) × List (Int)) × Bool × Int × Unit) := T.ite (decide (x.2.2.1 < (↑(List.length x.1.2.2.1) : Int))) (T.opt (lget x.1.2.2.1 x.2.2.1) fun y => T.ite (!ford (fop BinOp.sub y y) (some (0 : Nat)) == some Ordering.eq) (T.ret (Ex.ret, x.1, false, x.2.2.1, ())) (T.ret (Ex.normal, x.1, x.2.1, W (x.2.2.1 + (1 : Int)), ()))) (T.ret (Ex.exit (0 : Nat), x.1, x.2.1, x.2.2.1, ()))
noncomputable def ref29_May.l0 (x : (Int × Int × List (Option Nat) × List (Int)) × Bool × Int × Unit) : Option (Ex × (Int × Int × List (Option Nat) × List (Int)) × Bool × Int × Unit) := (iterT ref29_May.t0 rounds x).run
theorem ref29_May.k0 : bodies 0 (lp Try.f13 []) = [.loop (loopIn 0 (lp Try.f13 []))] ∧ WP Try.prog 0 (.block 0 (.loop (loopIn 0 (lp Try.f13 [])))) (loopS ref29_May.L0 89 0 [.exit 0, .ret] ref29_May.l0) :=
  loop_tree (L := ref29_May.L0) (F := (dp Try.prog (ext Xs 20 ref02_Number.q) deeps 100 8)) (D := (inL deeps.D)) (tab := []) (t := ref29_May.t0) mixed (dp_ok mixed (quiet_ext Xok ref02_Number.ok) deepsOk 100 8).1 (dp_ok mixed (quiet_ext Xok ref02_Number.ok) deepsOk 100 8).2 (fun _ => rfl) (by kernel_rfl) (by kernel_rfl) trivial (fun x => by kernel_rfl)
def ref29_May.L2 : List (Nat × Lay) := [(1, .box TPic), (2, .val .bool), (4, .val TI)]
noncomputable def ref29_May.t2 (x : (Int × Int × List (Option Nat) × List (Int)) × Bool × Int × Unit) : T (Ex × (Int × Int × List (Option Nat) × List (Int)) × Bool × Int × Unit) := T.ite (decide (x.2.2.1 < (↑(List.length x.1.2.2.2) : Int))) (T.opt (lget x.1.2.2.2 x.2.2.1) fun y => T.ite (decide (y < (0 : Int))) (T.ret (Ex.ret, x.1, false, x.2.2.1, ())) (T.opt (lget x.1.2.2.2 x.2.2.1) fun y => T.ite (decide (y > (2147483647 : Int))) (T.ret (Ex.ret, x.1, false, x.2.2.1, ())) (T.ret (Ex.normal, x.1, x.2.1, W (x.2.2.1 + (1 : Int)), ())))) (T.ret (Ex.exit (2 : Nat), x.1, x.2.1, x.2.2.1, ()))
noncomputable def ref29_May.l2 (x : (Int × Int × List (Option Nat) × List (Int)) × Bool × Int × Unit) : Option (Ex × (Int × Int × List (Option Nat) × List (Int)) × Bool × Int × Unit) := (iterT ref29_May.t2 rounds x).run
theorem ref29_May.k2 : bodies 2 (lp Try.f13 []) = [.loop (loopIn 2 (lp Try.f13 []))] ∧ WP Try.prog 0 (.block 2 (.loop (loopIn 2 (lp Try.f13 [])))) (loopS ref29_May.L2 89 2 [.exit 2, .ret] ref29_May.l2) :=
  loop_tree (L := ref29_May.L2) (F := (dp Try.prog (ext Xs 20 ref02_Number.q) deeps 100 8)) (D := (inL deeps.D)) (tab := []) (t := ref29_May.t2) mixed (dp_ok mixed (quiet_ext Xok ref02_Number.ok) deepsOk 100 8).1 (dp_ok mixed (quiet_ext Xok ref02_Number.ok) deepsOk 100 8).2 (fun _ => rfl) (by kernel_rfl) (by kernel_rfl) trivial (fun x => by kernel_rfl)
noncomputable def ref29_May.t (x : (Int × Int × List (Option Nat) × List (Int))) : T (Bool) := T.ite (decide (x.1 < (1 : Int)) || decide (x.2.1 < (1 : Int)) || decide (x.1 > (8192 : Int)) || decide (x.2.1 > (8192 : Int)) || decide (W (x.1 * x.2.1) > (65536 : Int)) || (↑(List.length x.2.2.1) : Int) != W (W ((3 : Int) * x.1) * x.2.1) || (↑(List.length x.2.2.2) : Int) != W (x.1 * x.2.1)) (T.ret false) (T.opt (ref29_May.l0 (x, false, (0 : Int), ())) fun y => T.ite (exEq y.1 (Ex.exit (0 : Nat))) (T.opt (ref29_May.l2 (y.2.1, y.2.2.1, (0 : Int), ())) fun y => T.ite (exEq y.1 (Ex.exit (2 : Nat))) (T.ret true) (T.ite (exEq y.1 Ex.ret) (T.ret y.2.2.1) T.fail)) (T.ite (exEq y.1 Ex.ret) (T.ret y.2.2.1) T.fail))
noncomputable def ref29_May (x : (Int × Int × List (Option Nat) × List (Int))) : Option (Bool) := (ref29_May.t x).run
noncomputable def ref29_May.q : List AV → T AV := entry [TPic] (outR [.bool]) fun x => .opt (ref29_May x) .ret
theorem ref29_May.ok : FnOK Try.prog 13 ref29_May.q :=
  entry_call (ps := [TPic]) (rs := [.bool]) (F := (dp Try.prog (ext Xs 20 ref02_Number.q) deeps 100 8)) (D := (inL deeps.D)) (S := tabS [(0, loopS ref29_May.L0 89 0 [.exit 0, .ret] ref29_May.l0), (2, loopS ref29_May.L2 89 2 [.exit 2, .ret] ref29_May.l2)]) (t := ref29_May.t) mixed (dp_ok mixed (quiet_ext Xok ref02_Number.ok) deepsOk 100 8).1 (dp_ok mixed (quiet_ext Xok ref02_Number.ok) deepsOk 100 8).2 Try.func13 (by kernel_rfl) (sok_fn ⟨ref29_May.k0, ref29_May.k2, trivial⟩) (by kernel_rfl) (fun x => by kernel_rfl)
end Go.Proofs.Pen

namespace Go.Proofs.Pen
open Go Go.Proofs
def take.L0 : List (Nat × Lay) := [(4, .val (.int .u64)), (10, .val (.sl (.int .u8))), (11, .val TI), (12, .val TI)]
noncomputable def take.t0 (x : Int × (List (Int)) × Int × Int × Unit) : T (Ex × Int × (List (Int)) × Int × Int × Unit) := T.ite (decide (x.2.2.2.1 < x.2.2.1)) (T.opt (lget x.2.1 x.2.2.2.1) fun y => T.ite (decide ((8 : Int) < (0 : Int))) T.fail (T.ret (Ex.normal, IntKind.u64.wrap (↑(BitVec.ofInt IntKind.u64.bits (IntKind.u64.wrap (x.1 * (2 : Int) ^ min (Int.toNat (8 : Int)) IntKind.u64.bits)) ||| BitVec.ofInt IntKind.u64.bits (IntKind.u64.wrap y)).toNat : Int), x.2.1, x.2.2.1, W (x.2.2.2.1 + (1 : Int)), ()))) (T.ret (Ex.exit (0 : Nat), x.1, x.2.1, x.2.2.1, x.2.2.2.1, ()))
noncomputable def take.l0 (x : Int × (List (Int)) × Int × Int × Unit) : Option (Ex × Int × (List (Int)) × Int × Int × Unit) := (iterT take.t0 rounds x).run
theorem take.k0 : bodies 0 (lp Try.f103 []) = [.loop (loopIn 0 (lp Try.f103 []))] ∧ WP Try.prog 0 (.block 0 (.loop (loopIn 0 (lp Try.f103 [])))) (loopS take.L0 26 0 [.exit 0] take.l0) :=
  loop_tree (L := take.L0) (F := (dp Try.prog Xs deeps 100 8)) (D := (inL deeps.D)) (tab := []) (t := take.t0) mixed (dp_ok mixed Xok deepsOk 100 8).1 (dp_ok mixed Xok deepsOk 100 8).2 (fun _ => rfl) (by kernel_rfl) (by kernel_rfl) trivial (fun x => by kernel_rfl)
noncomputable def take.S : List (Nat × (St → T (Ex × St))) := [(0, frameS (.block 0 (.loop (loopIn 0 (lp Try.f103 [])))) (loopS take.L0 26 0 [.exit 0] take.l0))]
theorem take.tab (n : Nat) : TabOK Try.prog n (codeOf Try.f103) take.S := ⟨⟨take.k0.1, frame_WP take.k0.2 n⟩, trivial⟩
end Go.Proofs.Pen

namespace Go.Proofs.Pen
open Go Go.Proofs
noncomputable def image_Decode.deeps : Deeps := { D := [56, 103], C := [], frz := true, S := extS (fun _ => noS) 103 (tabS take.S) }
theorem image_Decode.deepsOk : LoopsOK Try.prog image_Decode.deeps.S := (loops_ext (loops_none _) Try.func103 take.tab)
def image_Decode.L1 : List (Nat × Lay) := [(2, .box TPic), (4, .cbox 103 (.sl (.int .u8))), (5, .obx [.dat TI, .dat TI, .own .flt, .own (.int .i64)]), (6, .val TI), (55, .val TI), (56, .val TI)]
noncomputable def image_Decode.t1 (x : (Int × Int × List (Option Nat) × List (Int)) × (List (Int)) × (Int × Int × List (Option Nat) × List Int × Unit) × Int × Int × Int × Unit) : T (Ex × (Int × Int × List (Option Nat) × List (Int)) × (List (Int)) × (Int × Int × List (Option Nat) × List Int × Unit) × Int × Int × Int × Unit) := T.ite (decide (x.2.2.2.2.2.1 < x.2.2.2.2.1)) (T.ite (decide ((0 : Int) ≤ (0 : Int)) && decide ((0 : Int) ≤ (8 : Int)) && decide ((8 : Int) ≤ (8 : Int)) && decide ((8 : Int) ≤ (↑(List.length x.2.1) : Int))) (T.ite (((8 : Int) - (0 : Int)).toNat == Int.toNat (8 : Int) - Int.toNat (0 : Int)) (T.opt (take.l0 ((0 : Int), List.take (Int.toNat (8 : Int) - Int.toNat (0 : Int)) (List.drop (Int.toNat (0 : Int)) x.2.1), (↑(List.take (Int.toNat (8 : Int) - Int.toNat (0 : Int)) (List.drop (Int.toNat (0 : Int)) x.2.1)).length : Int), (0 : Int), ())) fun y => T.ite (exEq y.1 (Ex.exit (0 : Nat))) (T.ite (decide ((0 : Int) ≤ (8 : Int)) && decide ((8 : Int) ≤ (↑(List.length x.2.1) : Int)) && decide ((↑(List.length x.2.1) : Int) ≤ (↑(List.length x.2.1) : Int))) (T.ite (decide ((x.2.2.1.2.2.1.length + (1 : Nat)) * nat_lit 8 ≤ most)) (T.ret (Ex.normal, x.1, List.take ((↑(List.length x.2.1) : Int).toNat - Int.toNat (8 : Int)) (List.drop (Int.toNat (8 : Int)) x.2.1), (x.2.2.1.1, x.2.2.1.2.1, List.take (x.2.2.1.2.2.1.length + (1 : Nat)) (List.take x.2.2.1.2.2.1.length x.2.2.1.2.2.1 ++ [some (Int.toNat y.2.1)]), List.take x.2.2.1.2.2.2.1.length x.2.2.1.2.2.2.1, ()), x.2.2.2.1, x.2.2.2.2.1, W (x.2.2.2.2.2.1 + (1 : Int)), ())) T.fail) T.fail) T.fail) (T.opt (take.l0 ((0 : Int), List.take (Int.toNat (8 : Int) - Int.toNat (0 : Int)) (List.drop (Int.toNat (0 : Int)) x.2.1), (↑(List.take (Int.toNat (8 : Int) - Int.toNat (0 : Int)) (List.drop (Int.toNat (0 : Int)) x.2.1)).length : Int), (0 : Int), ())) fun y => T.ite (exEq y.1 (Ex.exit (0 : Nat))) (T.ite (decide ((0 : Int) ≤ (8 : Int)) && decide ((8 : Int) ≤ (↑(List.length x.2.1) : Int)) && decide ((↑(List.length x.2.1) : Int) ≤ (↑(List.length x.2.1) : Int))) (T.ite (decide ((x.2.2.1.2.2.1.length + (1 : Nat)) * nat_lit 8 ≤ most)) (T.ret (Ex.normal, x.1, List.take ((↑(List.length x.2.1) : Int).toNat - Int.toNat (8 : Int)) (List.drop (Int.toNat (8 : Int)) x.2.1), (x.2.2.1.1, x.2.2.1.2.1, List.take (x.2.2.1.2.2.1.length + (1 : Nat)) (List.take x.2.2.1.2.2.1.length x.2.2.1.2.2.1 ++ [some (Int.toNat y.2.1)]), List.take x.2.2.1.2.2.2.1.length x.2.2.1.2.2.2.1, ()), x.2.2.2.1, x.2.2.2.2.1, W (x.2.2.2.2.2.1 + (1 : Int)), ())) T.fail) T.fail) T.fail)) T.fail) (T.ret (Ex.exit (1 : Nat), x.1, x.2.1, (x.2.2.1.1, x.2.2.1.2.1, List.take x.2.2.1.2.2.1.length x.2.2.1.2.2.1, List.take x.2.2.1.2.2.2.1.length x.2.2.1.2.2.2.1, ()), x.2.2.2.1, x.2.2.2.2.1, x.2.2.2.2.2.1, ()))
noncomputable def image_Decode.l1 (x : (Int × Int × List (Option Nat) × List (Int)) × (List (Int)) × (Int × Int × List (Option Nat) × List Int × Unit) × Int × Int × Int × Unit) : Option (Ex × (Int × Int × List (Option Nat) × List (Int)) × (List (Int)) × (Int × Int × List (Option Nat) × List Int × Unit) × Int × Int × Int × Unit) := (iterT image_Decode.t1 rounds x).run
theorem image_Decode.k1 : bodies 1 (lp Try.f14 []) = [.loop (loopIn 1 (lp Try.f14 []))] ∧ WP Try.prog 0 (.block 1 (.loop (loopIn 1 (lp Try.f14 [])))) (loopS image_Decode.L1 84 1 [.exit 1] image_Decode.l1) :=
  loop_tree (L := image_Decode.L1) (F := (dp Try.prog (ext (ext (ext (ext (ext (ext Xs 57 image_pixels.q) 18 image_Size.q) 24 image_Float.q) 54 image_may.q) 98 image_may_1.q) 99 image_may_2.q) image_Decode.deeps 100 8)) (D := (inL image_Decode.deeps.D)) (tab := []) (t := image_Decode.t1) mixed (dp_ok mixed (quiet_ext (quiet_ext (quiet_ext (quiet_ext (quiet_ext (quiet_ext Xok image_pixels.ok) image_Size.ok) image_Float.ok) image_may.ok) image_may_1.ok) image_may_2.ok) image_Decode.deepsOk 100 8).1 (dp_ok mixed (quiet_ext (quiet_ext (quiet_ext (quiet_ext (quiet_ext (quiet_ext Xok image_pixels.ok) image_Size.ok) image_Float.ok) image_may.ok) image_may_1.ok) image_may_2.ok) image_Decode.deepsOk 100 8).2 (fun _ => rfl) (by kernel_rfl) (by kernel_rfl) trivial (fun x => by kernel_rfl)
def image_Decode.L3 : List (Nat × Lay) := [(2, .box TPic), (4, .cbox 103 (.sl (.int .u8))), (5, .obx [.dat TI, .dat TI, .own .flt, .own (.int .i64)]), (67, .val TI), (68, .val TI)]
noncomputable def image_Decode.t3 (x : (Int × Int × List (Option Nat) × List (Int)) × (List (Int)) × (Int × Int × List (Option Nat) × List Int × Unit) × Int × Int × Unit) : T (Ex × (Int × Int × List (Option Nat) × List (Int)) × (List (Int)) × (Int × Int × List (Option Nat) × List Int × Unit) × Int × Int × Unit) := T.ite (decide (x.2.2.2.2.1 < x.2.2.2.1)) (T.ite (decide ((0 : Int) ≤ (0 : Int)) && decide ((0 : Int) ≤ (4 : Int)) && decide ((4 : Int) ≤ (4 : Int)) && decide ((4 : Int) ≤ (↑(List.length x.2.1) : Int))) (T.ite (((4 : Int) - (0 : Int)).toNat == Int.toNat (4 : Int) - Int.toNat (0 : Int)) (T.opt (take.l0 ((0 : Int), List.take (Int.toNat (4 : Int) - Int.toNat (0 : Int)) (List.drop (Int.toNat (0 : Int)) x.2.1), (↑(List.take (Int.toNat (4 : Int) - Int.toNat (0 : Int)) (List.drop (Int.toNat (0 : Int)) x.2.1)).length : Int), (0 : Int), ())) fun y => T.ite (exEq y.1 (Ex.exit (0 : Nat))) (T.ite (decide ((0 : Int) ≤ (4 : Int)) && decide ((4 : Int) ≤ (↑(List.length x.2.1) : Int)) && decide ((↑(List.length x.2.1) : Int) ≤ (↑(List.length x.2.1) : Int))) (T.ite (decide ((x.2.2.1.2.2.2.1.length + (1 : Nat)) * nat_lit 8 ≤ most)) (T.ret (Ex.normal, x.1, List.take ((↑(List.length x.2.1) : Int).toNat - Int.toNat (4 : Int)) (List.drop (Int.toNat (4 : Int)) x.2.1), (x.2.2.1.1, x.2.2.1.2.1, List.take x.2.2.1.2.2.1.length x.2.2.1.2.2.1, List.take (x.2.2.1.2.2.2.1.length + (1 : Nat)) (List.take x.2.2.1.2.2.2.1.length x.2.2.1.2.2.2.1 ++ [W y.2.1]), ()), x.2.2.2.1, W (x.2.2.2.2.1 + (1 : Int)), ())) T.fail) T.fail) T.fail) (T.opt (take.l0 ((0 : Int), List.take (Int.toNat (4 : Int) - Int.toNat (0 : Int)) (List.drop (Int.toNat (0 : Int)) x.2.1), (↑(List.take (Int.toNat (4 : Int) - Int.toNat (0 : Int)) (List.drop (Int.toNat (0 : Int)) x.2.1)).length : Int), (0 : Int), ())) fun y => T.ite (exEq y.1 (Ex.exit (0 : Nat))) (T.ite (decide ((0 : Int) ≤ (4 : Int)) && decide ((4 : Int) ≤ (↑(List.length x.2.1) : Int)) && decide ((↑(List.length x.2.1) : Int) ≤ (↑(List.length x.2.1) : Int))) (T.ite (decide ((x.2.2.1.2.2.2.1.length + (1 : Nat)) * nat_lit 8 ≤ most)) (T.ret (Ex.normal, x.1, List.take ((↑(List.length x.2.1) : Int).toNat - Int.toNat (4 : Int)) (List.drop (Int.toNat (4 : Int)) x.2.1), (x.2.2.1.1, x.2.2.1.2.1, List.take x.2.2.1.2.2.1.length x.2.2.1.2.2.1, List.take (x.2.2.1.2.2.2.1.length + (1 : Nat)) (List.take x.2.2.1.2.2.2.1.length x.2.2.1.2.2.2.1 ++ [W y.2.1]), ()), x.2.2.2.1, W (x.2.2.2.2.1 + (1 : Int)), ())) T.fail) T.fail) T.fail)) T.fail) (T.ret (Ex.exit (3 : Nat), x.1, x.2.1, (x.2.2.1.1, x.2.2.1.2.1, List.take x.2.2.1.2.2.1.length x.2.2.1.2.2.1, List.take x.2.2.1.2.2.2.1.length x.2.2.1.2.2.2.1, ()), x.2.2.2.1, x.2.2.2.2.1, ()))
noncomputable def image_Decode.l3 (x : (Int × Int × List (Option Nat) × List (Int)) × (List (Int)) × (Int × Int × List (Option Nat) × List Int × Unit) × Int × Int × Unit) : Option (Ex × (Int × Int × List (Option Nat) × List (Int)) × (List (Int)) × (Int × Int × List (Option Nat) × List Int × Unit) × Int × Int × Unit) := (iterT image_Decode.t3 rounds x).run
theorem image_Decode.k3 : bodies 3 (lp Try.f14 []) = [.loop (loopIn 3 (lp Try.f14 []))] ∧ WP Try.prog 0 (.block 3 (.loop (loopIn 3 (lp Try.f14 [])))) (loopS image_Decode.L3 84 3 [.exit 3] image_Decode.l3) :=
  loop_tree (L := image_Decode.L3) (F := (dp Try.prog (ext (ext (ext (ext (ext (ext Xs 57 image_pixels.q) 18 image_Size.q) 24 image_Float.q) 54 image_may.q) 98 image_may_1.q) 99 image_may_2.q) image_Decode.deeps 100 8)) (D := (inL image_Decode.deeps.D)) (tab := []) (t := image_Decode.t3) mixed (dp_ok mixed (quiet_ext (quiet_ext (quiet_ext (quiet_ext (quiet_ext (quiet_ext Xok image_pixels.ok) image_Size.ok) image_Float.ok) image_may.ok) image_may_1.ok) image_may_2.ok) image_Decode.deepsOk 100 8).1 (dp_ok mixed (quiet_ext (quiet_ext (quiet_ext (quiet_ext (quiet_ext (quiet_ext Xok image_pixels.ok) image_Size.ok) image_Float.ok) image_may.ok) image_may_1.ok) image_may_2.ok) image_Decode.deepsOk 100 8).2 (fun _ => rfl) (by kernel_rfl) (by kernel_rfl) trivial (fun x => by kernel_rfl)
noncomputable def image_Decode.t (x : ByteArray) : T ((Int × Int × List (Option Nat) × List (Int)) × Int) := T.ite (decide ((↑(ByteArray.size x) : Int) < (12 : Int))) (T.ret (((0 : Int), (0 : Int), [], []), (5 : Int))) (T.ite (decide ((0 : Int) ≤ (0 : Int)) && decide ((0 : Int) ≤ (4 : Int)) && decide ((4 : Int) ≤ (↑(ByteArray.size x) : Int))) (T.ite (!(ByteArray.extract x (Int.toNat (0 : Int)) (Int.toNat (4 : Int))).toList == (ByteArray.mk #[(80 : UInt8), (78 : UInt8), (66 : UInt8), (1 : UInt8)]).toList) (T.ret (((0 : Int), (0 : Int), [], []), (6 : Int))) (T.ite (decide ((0 : Int) ≤ (4 : Int)) && decide ((4 : Int) ≤ (↑(ByteArray.size x) : Int)) && decide ((↑(ByteArray.size x) : Int) ≤ (↑(ByteArray.size x) : Int))) (T.ite (decide ((0 : Int) ≤ (0 : Int)) && decide ((0 : Int) ≤ (4 : Int)) && decide ((4 : Int) ≤ (4 : Int)) && decide ((4 : Int) ≤ (↑(bytesOf (ByteArray.extract x (Int.toNat (4 : Int)) (↑(ByteArray.size x) : Int).toNat)).length : Int))) (T.ite (((4 : Int) - (0 : Int)).toNat == Int.toNat (4 : Int) - Int.toNat (0 : Int)) (T.opt (take.l0 ((0 : Int), List.take (Int.toNat (4 : Int) - Int.toNat (0 : Int)) (List.drop (Int.toNat (0 : Int)) (bytesOf (ByteArray.extract x (Int.toNat (4 : Int)) (↑(ByteArray.size x) : Int).toNat))), (↑(List.take (Int.toNat (4 : Int) - Int.toNat (0 : Int)) (List.drop (Int.toNat (0 : Int)) (bytesOf (ByteArray.extract x (Int.toNat (4 : Int)) (↑(ByteArray.size x) : Int).toNat)))).length : Int), (0 : Int), ())) fun y => T.ite (exEq y.1 (Ex.exit (0 : Nat))) (T.ite (decide ((0 : Int) ≤ (4 : Int)) && decide ((4 : Int) ≤ (↑(bytesOf (ByteArray.extract x (Int.toNat (4 : Int)) (↑(ByteArray.size x) : Int).toNat)).length : Int)) && decide ((↑(bytesOf (ByteArray.extract x (Int.toNat (4 : Int)) (↑(ByteArray.size x) : Int).toNat)).length : Int) ≤ (↑(bytesOf (ByteArray.extract x (Int.toNat (4 : Int)) (↑(ByteArray.size x) : Int).toNat)).length : Int))) (T.ite (decide ((0 : Int) ≤ (0 : Int)) && decide ((0 : Int) ≤ (4 : Int)) && decide ((4 : Int) ≤ (4 : Int)) && decide ((4 : Int) ≤ (↑(List.take ((↑(bytesOf (ByteArray.extract x (Int.toNat (4 : Int)) (↑(ByteArray.size x) : Int).toNat)).length : Int).toNat - Int.toNat (4 : Int)) (List.drop (Int.toNat (4 : Int)) (bytesOf (ByteArray.extract x (Int.toNat (4 : Int)) (↑(ByteArray.size x) : Int).toNat)))).length : Int))) (T.ite (((4 : Int) - (0 : Int)).toNat == Int.toNat (4 : Int) - Int.toNat (0 : Int)) (T.opt (take.l0 ((0 : Int), List.take (Int.toNat (4 : Int) - Int.toNat (0 : Int)) (List.drop (Int.toNat (0 : Int)) (List.take ((↑(bytesOf (ByteArray.extract x (Int.toNat (4 : Int)) (↑(ByteArray.size x) : Int).toNat)).length : Int).toNat - Int.toNat (4 : Int)) (List.drop (Int.toNat (4 : Int)) (bytesOf (ByteArray.extract x (Int.toNat (4 : Int)) (↑(ByteArray.size x) : Int).toNat))))), (↑(List.take (Int.toNat (4 : Int) - Int.toNat (0 : Int)) (List.drop (Int.toNat (0 : Int)) (List.take ((↑(bytesOf (ByteArray.extract x (Int.toNat (4 : Int)) (↑(ByteArray.size x) : Int).toNat)).length : Int).toNat - Int.toNat (4 : Int)) (List.drop (Int.toNat (4 : Int)) (bytesOf (ByteArray.extract x (Int.toNat (4 : Int)) (↑(ByteArray.size x) : Int).toNat)))))).length : Int), (0 : Int), ())) fun y_1 => T.ite (exEq y_1.fst (Ex.exit (0 : Nat))) (T.ite (decide ((0 : Int) ≤ (4 : Int)) && decide ((4 : Int) ≤ (↑(List.take ((↑(bytesOf (ByteArray.extract x (Int.toNat (4 : Int)) (↑(ByteArray.size x) : Int).toNat)).length : Int).toNat - Int.toNat (4 : Int)) (List.drop (Int.toNat (4 : Int)) (bytesOf (ByteArray.extract x (Int.toNat (4 : Int)) (↑(ByteArray.size x) : Int).toNat)))).length : Int)) && decide ((↑(List.take ((↑(bytesOf (ByteArray.extract x (Int.toNat (4 : Int)) (↑(ByteArray.size x) : Int).toNat)).length : Int).toNat - Int.toNat (4 : Int)) (List.drop (Int.toNat (4 : Int)) (bytesOf (ByteArray.extract x (Int.toNat (4 : Int)) (↑(ByteArray.size x) : Int).toNat)))).length : Int) ≤ (↑(List.take ((↑(bytesOf (ByteArray.extract x (Int.toNat (4 : Int)) (↑(ByteArray.size x) : Int).toNat)).length : Int).toNat - Int.toNat (4 : Int)) (List.drop (Int.toNat (4 : Int)) (bytesOf (ByteArray.extract x (Int.toNat (4 : Int)) (↑(ByteArray.size x) : Int).toNat)))).length : Int))) (T.opt (image_pixels (W y.2.1, W y_1.snd.fst)) fun y_2 => T.ite (y_2 == (0 : Int)) (T.ret (((0 : Int), (0 : Int), [], []), (3 : Int))) (T.opt (image_Size (W y.2.1, W y_1.snd.fst)) fun y_3 => T.ite (decide ((↑(ByteArray.size x) : Int) < y_3)) (T.ret (((0 : Int), (0 : Int), [], []), (5 : Int))) (T.opt (image_Size (W y.2.1, W y_1.snd.fst)) fun y_4 => T.ite (decide ((↑(ByteArray.size x) : Int) > y_4)) (T.ret (((0 : Int), (0 : Int), [], []), (6 : Int))) (T.opt (image_Decode.l1 (((0 : Int), (0 : Int), [], []), List.take ((↑(List.take ((↑(bytesOf (ByteArray.extract x (Int.toNat (4 : Int)) (↑(ByteArray.size x) : Int).toNat)).length : Int).toNat - Int.toNat (4 : Int)) (List.drop (Int.toNat (4 : Int)) (bytesOf (ByteArray.extract x (Int.toNat (4 : Int)) (↑(ByteArray.size x) : Int).toNat)))).length : Int).toNat - Int.toNat (4 : Int)) (List.drop (Int.toNat (4 : Int)) (List.take ((↑(bytesOf (ByteArray.extract x (Int.toNat (4 : Int)) (↑(ByteArray.size x) : Int).toNat)).length : Int).toNat - Int.toNat (4 : Int)) (List.drop (Int.toNat (4 : Int)) (bytesOf (ByteArray.extract x (Int.toNat (4 : Int)) (↑(ByteArray.size x) : Int).toNat))))), (W y.2.1, W y_1.snd.fst, [], [], ()), y_2, W ((3 : Int) * y_2), (0 : Int), ())) fun y => T.ite (exEq y.1 (Ex.exit (1 : Nat))) (T.opt (image_Decode.l3 (y.2.1, y.2.2.1, (y.2.2.2.1.1, y.2.2.2.1.2.1, List.take y.2.2.2.1.2.2.1.length y.2.2.2.1.2.2.1, List.take y.2.2.2.1.2.2.2.1.length y.2.2.2.1.2.2.2.1, ()), y.2.2.2.2.1, (0 : Int), ())) fun y => T.ite (exEq y.1 (Ex.exit (3 : Nat))) (T.opt (image_may (y.2.2.2.1.1, y.2.2.2.1.2.1, List.take y.2.2.2.1.2.2.1.length y.2.2.2.1.2.2.1, List.take y.2.2.2.1.2.2.2.1.length y.2.2.2.1.2.2.2.1)) fun y_5 => T.ite (!y_5) (T.ret (((0 : Int), (0 : Int), [], []), (6 : Int))) (T.ret ((y.2.2.2.1.1, y.2.2.2.1.2.1, List.take y.2.2.2.1.2.2.1.length y.2.2.2.1.2.2.1, List.take y.2.2.2.1.2.2.2.1.length y.2.2.2.1.2.2.2.1), (0 : Int)))) T.fail) T.fail)))) T.fail) T.fail) (T.opt (take.l0 ((0 : Int), List.take (Int.toNat (4 : Int) - Int.toNat (0 : Int)) (List.drop (Int.toNat (0 : Int)) (List.take ((↑(bytesOf (ByteArray.extract x (Int.toNat (4 : Int)) (↑(ByteArray.size x) : Int).toNat)).length : Int).toNat - Int.toNat (4 : Int)) (List.drop (Int.toNat (4 : Int)) (bytesOf (ByteArray.extract x (Int.toNat (4 : Int)) (↑(ByteArray.size x) : Int).toNat))))), (↑(List.take (Int.toNat (4 : Int) - Int.toNat (0 : Int)) (List.drop (Int.toNat (0 : Int)) (List.take ((↑(bytesOf (ByteArray.extract x (Int.toNat (4 : Int)) (↑(ByteArray.size x) : Int).toNat)).length : Int).toNat - Int.toNat (4 : Int)) (List.drop (Int.toNat (4 : Int)) (bytesOf (ByteArray.extract x (Int.toNat (4 : Int)) (↑(ByteArray.size x) : Int).toNat)))))).length : Int), (0 : Int), ())) fun y_1 => T.ite (exEq y_1.fst (Ex.exit (0 : Nat))) (T.ite (decide ((0 : Int) ≤ (4 : Int)) && decide ((4 : Int) ≤ (↑(List.take ((↑(bytesOf (ByteArray.extract x (Int.toNat (4 : Int)) (↑(ByteArray.size x) : Int).toNat)).length : Int).toNat - Int.toNat (4 : Int)) (List.drop (Int.toNat (4 : Int)) (bytesOf (ByteArray.extract x (Int.toNat (4 : Int)) (↑(ByteArray.size x) : Int).toNat)))).length : Int)) && decide ((↑(List.take ((↑(bytesOf (ByteArray.extract x (Int.toNat (4 : Int)) (↑(ByteArray.size x) : Int).toNat)).length : Int).toNat - Int.toNat (4 : Int)) (List.drop (Int.toNat (4 : Int)) (bytesOf (ByteArray.extract x (Int.toNat (4 : Int)) (↑(ByteArray.size x) : Int).toNat)))).length : Int) ≤ (↑(List.take ((↑(bytesOf (ByteArray.extract x (Int.toNat (4 : Int)) (↑(ByteArray.size x) : Int).toNat)).length : Int).toNat - Int.toNat (4 : Int)) (List.drop (Int.toNat (4 : Int)) (bytesOf (ByteArray.extract x (Int.toNat (4 : Int)) (↑(ByteArray.size x) : Int).toNat)))).length : Int))) (T.opt (image_pixels (W y.2.1, W y_1.snd.fst)) fun y_2 => T.ite (y_2 == (0 : Int)) (T.ret (((0 : Int), (0 : Int), [], []), (3 : Int))) (T.opt (image_Size (W y.2.1, W y_1.snd.fst)) fun y_3 => T.ite (decide ((↑(ByteArray.size x) : Int) < y_3)) (T.ret (((0 : Int), (0 : Int), [], []), (5 : Int))) (T.opt (image_Size (W y.2.1, W y_1.snd.fst)) fun y_4 => T.ite (decide ((↑(ByteArray.size x) : Int) > y_4)) (T.ret (((0 : Int), (0 : Int), [], []), (6 : Int))) (T.opt (image_Decode.l1 (((0 : Int), (0 : Int), [], []), List.take ((↑(List.take ((↑(bytesOf (ByteArray.extract x (Int.toNat (4 : Int)) (↑(ByteArray.size x) : Int).toNat)).length : Int).toNat - Int.toNat (4 : Int)) (List.drop (Int.toNat (4 : Int)) (bytesOf (ByteArray.extract x (Int.toNat (4 : Int)) (↑(ByteArray.size x) : Int).toNat)))).length : Int).toNat - Int.toNat (4 : Int)) (List.drop (Int.toNat (4 : Int)) (List.take ((↑(bytesOf (ByteArray.extract x (Int.toNat (4 : Int)) (↑(ByteArray.size x) : Int).toNat)).length : Int).toNat - Int.toNat (4 : Int)) (List.drop (Int.toNat (4 : Int)) (bytesOf (ByteArray.extract x (Int.toNat (4 : Int)) (↑(ByteArray.size x) : Int).toNat))))), (W y.2.1, W y_1.snd.fst, [], [], ()), y_2, W ((3 : Int) * y_2), (0 : Int), ())) fun y => T.ite (exEq y.1 (Ex.exit (1 : Nat))) (T.opt (image_Decode.l3 (y.2.1, y.2.2.1, (y.2.2.2.1.1, y.2.2.2.1.2.1, List.take y.2.2.2.1.2.2.1.length y.2.2.2.1.2.2.1, List.take y.2.2.2.1.2.2.2.1.length y.2.2.2.1.2.2.2.1, ()), y.2.2.2.2.1, (0 : Int), ())) fun y => T.ite (exEq y.1 (Ex.exit (3 : Nat))) (T.opt (image_may (y.2.2.2.1.1, y.2.2.2.1.2.1, List.take y.2.2.2.1.2.2.1.length y.2.2.2.1.2.2.1, List.take y.2.2.2.1.2.2.2.1.length y.2.2.2.1.2.2.2.1)) fun y_5 => T.ite (!y_5) (T.ret (((0 : Int), (0 : Int), [], []), (6 : Int))) (T.ret ((y.2.2.2.1.1, y.2.2.2.1.2.1, List.take y.2.2.2.1.2.2.1.length y.2.2.2.1.2.2.1, List.take y.2.2.2.1.2.2.2.1.length y.2.2.2.1.2.2.2.1), (0 : Int)))) T.fail) T.fail)))) T.fail) T.fail)) T.fail) T.fail) T.fail) (T.opt (take.l0 ((0 : Int), List.take (Int.toNat (4 : Int) - Int.toNat (0 : Int)) (List.drop (Int.toNat (0 : Int)) (bytesOf (ByteArray.extract x (Int.toNat (4 : Int)) (↑(ByteArray.size x) : Int).toNat))), (↑(List.take (Int.toNat (4 : Int) - Int.toNat (0 : Int)) (List.drop (Int.toNat (0 : Int)) (bytesOf (ByteArray.extract x (Int.toNat (4 : Int)) (↑(ByteArray.size x) : Int).toNat)))).length : Int), (0 : Int), ())) fun y => T.ite (exEq y.1 (Ex.exit (0 : Nat))) (T.ite (decide ((0 : Int) ≤ (4 : Int)) && decide ((4 : Int) ≤ (↑(bytesOf (ByteArray.extract x (Int.toNat (4 : Int)) (↑(ByteArray.size x) : Int).toNat)).length : Int)) && decide ((↑(bytesOf (ByteArray.extract x (Int.toNat (4 : Int)) (↑(ByteArray.size x) : Int).toNat)).length : Int) ≤ (↑(bytesOf (ByteArray.extract x (Int.toNat (4 : Int)) (↑(ByteArray.size x) : Int).toNat)).length : Int))) (T.ite (decide ((0 : Int) ≤ (0 : Int)) && decide ((0 : Int) ≤ (4 : Int)) && decide ((4 : Int) ≤ (4 : Int)) && decide ((4 : Int) ≤ (↑(List.take ((↑(bytesOf (ByteArray.extract x (Int.toNat (4 : Int)) (↑(ByteArray.size x) : Int).toNat)).length : Int).toNat - Int.toNat (4 : Int)) (List.drop (Int.toNat (4 : Int)) (bytesOf (ByteArray.extract x (Int.toNat (4 : Int)) (↑(ByteArray.size x) : Int).toNat)))).length : Int))) (T.ite (((4 : Int) - (0 : Int)).toNat == Int.toNat (4 : Int) - Int.toNat (0 : Int)) (T.opt (take.l0 ((0 : Int), List.take (Int.toNat (4 : Int) - Int.toNat (0 : Int)) (List.drop (Int.toNat (0 : Int)) (List.take ((↑(bytesOf (ByteArray.extract x (Int.toNat (4 : Int)) (↑(ByteArray.size x) : Int).toNat)).length : Int).toNat - Int.toNat (4 : Int)) (List.drop (Int.toNat (4 : Int)) (bytesOf (ByteArray.extract x (Int.toNat (4 : Int)) (↑(ByteArray.size x) : Int).toNat))))), (↑(List.take (Int.toNat (4 : Int) - Int.toNat (0 : Int)) (List.drop (Int.toNat (0 : Int)) (List.take ((↑(bytesOf (ByteArray.extract x (Int.toNat (4 : Int)) (↑(ByteArray.size x) : Int).toNat)).length : Int).toNat - Int.toNat (4 : Int)) (List.drop (Int.toNat (4 : Int)) (bytesOf (ByteArray.extract x (Int.toNat (4 : Int)) (↑(ByteArray.size x) : Int).toNat)))))).length : Int), (0 : Int), ())) fun y_1 => T.ite (exEq y_1.fst (Ex.exit (0 : Nat))) (T.ite (decide ((0 : Int) ≤ (4 : Int)) && decide ((4 : Int) ≤ (↑(List.take ((↑(bytesOf (ByteArray.extract x (Int.toNat (4 : Int)) (↑(ByteArray.size x) : Int).toNat)).length : Int).toNat - Int.toNat (4 : Int)) (List.drop (Int.toNat (4 : Int)) (bytesOf (ByteArray.extract x (Int.toNat (4 : Int)) (↑(ByteArray.size x) : Int).toNat)))).length : Int)) && decide ((↑(List.take ((↑(bytesOf (ByteArray.extract x (Int.toNat (4 : Int)) (↑(ByteArray.size x) : Int).toNat)).length : Int).toNat - Int.toNat (4 : Int)) (List.drop (Int.toNat (4 : Int)) (bytesOf (ByteArray.extract x (Int.toNat (4 : Int)) (↑(ByteArray.size x) : Int).toNat)))).length : Int) ≤ (↑(List.take ((↑(bytesOf (ByteArray.extract x (Int.toNat (4 : Int)) (↑(ByteArray.size x) : Int).toNat)).length : Int).toNat - Int.toNat (4 : Int)) (List.drop (Int.toNat (4 : Int)) (bytesOf (ByteArray.extract x (Int.toNat (4 : Int)) (↑(ByteArray.size x) : Int).toNat)))).length : Int))) (T.opt (image_pixels (W y.2.1, W y_1.snd.fst)) fun y_2 => T.ite (y_2 == (0 : Int)) (T.ret (((0 : Int), (0 : Int), [], []), (3 : Int))) (T.opt (image_Size (W y.2.1, W y_1.snd.fst)) fun y_3 => T.ite (decide ((↑(ByteArray.size x) : Int) < y_3)) (T.ret (((0 : Int), (0 : Int), [], []), (5 : Int))) (T.opt (image_Size (W y.2.1, W y_1.snd.fst)) fun y_4 => T.ite (decide ((↑(ByteArray.size x) : Int) > y_4)) (T.ret (((0 : Int), (0 : Int), [], []), (6 : Int))) (T.opt (image_Decode.l1 (((0 : Int), (0 : Int), [], []), List.take ((↑(List.take ((↑(bytesOf (ByteArray.extract x (Int.toNat (4 : Int)) (↑(ByteArray.size x) : Int).toNat)).length : Int).toNat - Int.toNat (4 : Int)) (List.drop (Int.toNat (4 : Int)) (bytesOf (ByteArray.extract x (Int.toNat (4 : Int)) (↑(ByteArray.size x) : Int).toNat)))).length : Int).toNat - Int.toNat (4 : Int)) (List.drop (Int.toNat (4 : Int)) (List.take ((↑(bytesOf (ByteArray.extract x (Int.toNat (4 : Int)) (↑(ByteArray.size x) : Int).toNat)).length : Int).toNat - Int.toNat (4 : Int)) (List.drop (Int.toNat (4 : Int)) (bytesOf (ByteArray.extract x (Int.toNat (4 : Int)) (↑(ByteArray.size x) : Int).toNat))))), (W y.2.1, W y_1.snd.fst, [], [], ()), y_2, W ((3 : Int) * y_2), (0 : Int), ())) fun y => T.ite (exEq y.1 (Ex.exit (1 : Nat))) (T.opt (image_Decode.l3 (y.2.1, y.2.2.1, (y.2.2.2.1.1, y.2.2.2.1.2.1, List.take y.2.2.2.1.2.2.1.length y.2.2.2.1.2.2.1, List.take y.2.2.2.1.2.2.2.1.length y.2.2.2.1.2.2.2.1, ()), y.2.2.2.2.1, (0 : Int), ())) fun y => T.ite (exEq y.1 (Ex.exit (3 : Nat))) (T.opt (image_may (y.2.2.2.1.1, y.2.2.2.1.2.1, List.take y.2.2.2.1.2.2.1.length y.2.2.2.1.2.2.1, List.take y.2.2.2.1.2.2.2.1.length y.2.2.2.1.2.2.2.1)) fun y_5 => T.ite (!y_5) (T.ret (((0 : Int), (0 : Int), [], []), (6 : Int))) (T.ret ((y.2.2.2.1.1, y.2.2.2.1.2.1, List.take y.2.2.2.1.2.2.1.length y.2.2.2.1.2.2.1, List.take y.2.2.2.1.2.2.2.1.length y.2.2.2.1.2.2.2.1), (0 : Int)))) T.fail) T.fail)))) T.fail) T.fail) (T.opt (take.l0 ((0 : Int), List.take (Int.toNat (4 : Int) - Int.toNat (0 : Int)) (List.drop (Int.toNat (0 : Int)) (List.take ((↑(bytesOf (ByteArray.extract x (Int.toNat (4 : Int)) (↑(ByteArray.size x) : Int).toNat)).length : Int).toNat - Int.toNat (4 : Int)) (List.drop (Int.toNat (4 : Int)) (bytesOf (ByteArray.extract x (Int.toNat (4 : Int)) (↑(ByteArray.size x) : Int).toNat))))), (↑(List.take (Int.toNat (4 : Int) - Int.toNat (0 : Int)) (List.drop (Int.toNat (0 : Int)) (List.take ((↑(bytesOf (ByteArray.extract x (Int.toNat (4 : Int)) (↑(ByteArray.size x) : Int).toNat)).length : Int).toNat - Int.toNat (4 : Int)) (List.drop (Int.toNat (4 : Int)) (bytesOf (ByteArray.extract x (Int.toNat (4 : Int)) (↑(ByteArray.size x) : Int).toNat)))))).length : Int), (0 : Int), ())) fun y_1 => T.ite (exEq y_1.fst (Ex.exit (0 : Nat))) (T.ite (decide ((0 : Int) ≤ (4 : Int)) && decide ((4 : Int) ≤ (↑(List.take ((↑(bytesOf (ByteArray.extract x (Int.toNat (4 : Int)) (↑(ByteArray.size x) : Int).toNat)).length : Int).toNat - Int.toNat (4 : Int)) (List.drop (Int.toNat (4 : Int)) (bytesOf (ByteArray.extract x (Int.toNat (4 : Int)) (↑(ByteArray.size x) : Int).toNat)))).length : Int)) && decide ((↑(List.take ((↑(bytesOf (ByteArray.extract x (Int.toNat (4 : Int)) (↑(ByteArray.size x) : Int).toNat)).length : Int).toNat - Int.toNat (4 : Int)) (List.drop (Int.toNat (4 : Int)) (bytesOf (ByteArray.extract x (Int.toNat (4 : Int)) (↑(ByteArray.size x) : Int).toNat)))).length : Int) ≤ (↑(List.take ((↑(bytesOf (ByteArray.extract x (Int.toNat (4 : Int)) (↑(ByteArray.size x) : Int).toNat)).length : Int).toNat - Int.toNat (4 : Int)) (List.drop (Int.toNat (4 : Int)) (bytesOf (ByteArray.extract x (Int.toNat (4 : Int)) (↑(ByteArray.size x) : Int).toNat)))).length : Int))) (T.opt (image_pixels (W y.2.1, W y_1.snd.fst)) fun y_2 => T.ite (y_2 == (0 : Int)) (T.ret (((0 : Int), (0 : Int), [], []), (3 : Int))) (T.opt (image_Size (W y.2.1, W y_1.snd.fst)) fun y_3 => T.ite (decide ((↑(ByteArray.size x) : Int) < y_3)) (T.ret (((0 : Int), (0 : Int), [], []), (5 : Int))) (T.opt (image_Size (W y.2.1, W y_1.snd.fst)) fun y_4 => T.ite (decide ((↑(ByteArray.size x) : Int) > y_4)) (T.ret (((0 : Int), (0 : Int), [], []), (6 : Int))) (T.opt (image_Decode.l1 (((0 : Int), (0 : Int), [], []), List.take ((↑(List.take ((↑(bytesOf (ByteArray.extract x (Int.toNat (4 : Int)) (↑(ByteArray.size x) : Int).toNat)).length : Int).toNat - Int.toNat (4 : Int)) (List.drop (Int.toNat (4 : Int)) (bytesOf (ByteArray.extract x (Int.toNat (4 : Int)) (↑(ByteArray.size x) : Int).toNat)))).length : Int).toNat - Int.toNat (4 : Int)) (List.drop (Int.toNat (4 : Int)) (List.take ((↑(bytesOf (ByteArray.extract x (Int.toNat (4 : Int)) (↑(ByteArray.size x) : Int).toNat)).length : Int).toNat - Int.toNat (4 : Int)) (List.drop (Int.toNat (4 : Int)) (bytesOf (ByteArray.extract x (Int.toNat (4 : Int)) (↑(ByteArray.size x) : Int).toNat))))), (W y.2.1, W y_1.snd.fst, [], [], ()), y_2, W ((3 : Int) * y_2), (0 : Int), ())) fun y => T.ite (exEq y.1 (Ex.exit (1 : Nat))) (T.opt (image_Decode.l3 (y.2.1, y.2.2.1, (y.2.2.2.1.1, y.2.2.2.1.2.1, List.take y.2.2.2.1.2.2.1.length y.2.2.2.1.2.2.1, List.take y.2.2.2.1.2.2.2.1.length y.2.2.2.1.2.2.2.1, ()), y.2.2.2.2.1, (0 : Int), ())) fun y => T.ite (exEq y.1 (Ex.exit (3 : Nat))) (T.opt (image_may (y.2.2.2.1.1, y.2.2.2.1.2.1, List.take y.2.2.2.1.2.2.1.length y.2.2.2.1.2.2.1, List.take y.2.2.2.1.2.2.2.1.length y.2.2.2.1.2.2.2.1)) fun y_5 => T.ite (!y_5) (T.ret (((0 : Int), (0 : Int), [], []), (6 : Int))) (T.ret ((y.2.2.2.1.1, y.2.2.2.1.2.1, List.take y.2.2.2.1.2.2.1.length y.2.2.2.1.2.2.1, List.take y.2.2.2.1.2.2.2.1.length y.2.2.2.1.2.2.2.1), (0 : Int)))) T.fail) T.fail)))) T.fail) T.fail)) T.fail) T.fail) T.fail)) T.fail) T.fail)) T.fail)
noncomputable def image_Decode (x : ByteArray) : Option ((Int × Int × List (Option Nat) × List (Int)) × Int) := (image_Decode.t x).run
noncomputable def image_Decode.q : List AV → T AV := entry [.str] (outR [TPic, TI]) fun x => .opt (image_Decode x) .ret
theorem image_Decode.ok : FnOK Try.prog 14 image_Decode.q :=
  entry_call (ps := [.str]) (rs := [TPic, TI]) (F := (dp Try.prog (ext (ext (ext (ext (ext (ext Xs 57 image_pixels.q) 18 image_Size.q) 24 image_Float.q) 54 image_may.q) 98 image_may_1.q) 99 image_may_2.q) image_Decode.deeps 100 8)) (D := (inL image_Decode.deeps.D)) (S := tabS [(1, loopS image_Decode.L1 84 1 [.exit 1] image_Decode.l1), (3, loopS image_Decode.L3 84 3 [.exit 3] image_Decode.l3)]) (t := image_Decode.t) mixed (dp_ok mixed (quiet_ext (quiet_ext (quiet_ext (quiet_ext (quiet_ext (quiet_ext Xok image_pixels.ok) image_Size.ok) image_Float.ok) image_may.ok) image_may_1.ok) image_may_2.ok) image_Decode.deepsOk 100 8).1 (dp_ok mixed (quiet_ext (quiet_ext (quiet_ext (quiet_ext (quiet_ext (quiet_ext Xok image_pixels.ok) image_Size.ok) image_Float.ok) image_may.ok) image_may_1.ok) image_may_2.ok) image_Decode.deepsOk 100 8).2 Try.func14 (by kernel_rfl) (sok_fn ⟨image_Decode.k1, image_Decode.k3, trivial⟩) (by kernel_rfl) (fun x => by kernel_rfl)
end Go.Proofs.Pen

namespace Go.Proofs.Pen
open Go Go.Proofs
noncomputable def ref29_Four.t (x : Int) : T (ByteArray) := T.ret (ofBytes (List.take (4 : Nat) [IntKind.u8.wrap ((W (Int.tdiv x (16777216 : Int))).tmod (256 : Int)), IntKind.u8.wrap ((W (Int.tdiv x (65536 : Int))).tmod (256 : Int)), IntKind.u8.wrap ((W (Int.tdiv x (256 : Int))).tmod (256 : Int)), IntKind.u8.wrap (Int.tmod x (256 : Int))]))
noncomputable def ref29_Four.q : List AV → T AV := entry [TI] (outR [.str]) ref29_Four.t
theorem ref29_Four.ok : FnOK Try.prog 58 ref29_Four.q :=
  entry_in (ps := [TI]) (rs := [.str]) (F := (dp Try.prog Xs deeps 100 8)) (D := (inL deeps.D)) (S := tabS []) (t := ref29_Four.t) mixed (dp_ok mixed Xok deepsOk 100 8).1 (dp_ok mixed Xok deepsOk 100 8).2 Try.func58 (by kernel_rfl) (sok_fn trivial) (by kernel_rfl) (fun x => by kernel_rfl)
end Go.Proofs.Pen

namespace Go.Proofs.Pen
open Go Go.Proofs
noncomputable def ref29_Eight.t (x : Int) : T (ByteArray) := T.ite (decide ((↑((ofBytes (List.take (4 : Nat) [IntKind.u8.wrap ((W ((W (IntKind.u64.wrap (Int.tdiv x (4294967296 : Int)))).tdiv (16777216 : Int))).tmod (256 : Int)), IntKind.u8.wrap ((W ((W (IntKind.u64.wrap (Int.tdiv x (4294967296 : Int)))).tdiv (65536 : Int))).tmod (256 : Int)), IntKind.u8.wrap ((W ((W (IntKind.u64.wrap (Int.tdiv x (4294967296 : Int)))).tdiv (256 : Int))).tmod (256 : Int)), IntKind.u8.wrap ((W (IntKind.u64.wrap (Int.tdiv x (4294967296 : Int)))).tmod (256 : Int))])).size + (ofBytes (List.take (4 : Nat) [IntKind.u8.wrap ((W ((W (Int.tmod x (4294967296 : Int))).tdiv (16777216 : Int))).tmod (256 : Int)), IntKind.u8.wrap ((W ((W (Int.tmod x (4294967296 : Int))).tdiv (65536 : Int))).tmod (256 : Int)), IntKind.u8.wrap ((W ((W (Int.tmod x (4294967296 : Int))).tdiv (256 : Int))).tmod (256 : Int)), IntKind.u8.wrap ((W (Int.tmod x (4294967296 : Int))).tmod (256 : Int))])).size) : Int) > IntKind.i64.max)) T.fail (T.ret (ofBytes (List.take (4 : Nat) [IntKind.u8.wrap ((W ((W (IntKind.u64.wrap (Int.tdiv x (4294967296 : Int)))).tdiv (16777216 : Int))).tmod (256 : Int)), IntKind.u8.wrap ((W ((W (IntKind.u64.wrap (Int.tdiv x (4294967296 : Int)))).tdiv (65536 : Int))).tmod (256 : Int)), IntKind.u8.wrap ((W ((W (IntKind.u64.wrap (Int.tdiv x (4294967296 : Int)))).tdiv (256 : Int))).tmod (256 : Int)), IntKind.u8.wrap ((W (IntKind.u64.wrap (Int.tdiv x (4294967296 : Int)))).tmod (256 : Int))]) ++ ofBytes (List.take (4 : Nat) [IntKind.u8.wrap ((W ((W (Int.tmod x (4294967296 : Int))).tdiv (16777216 : Int))).tmod (256 : Int)), IntKind.u8.wrap ((W ((W (Int.tmod x (4294967296 : Int))).tdiv (65536 : Int))).tmod (256 : Int)), IntKind.u8.wrap ((W ((W (Int.tmod x (4294967296 : Int))).tdiv (256 : Int))).tmod (256 : Int)), IntKind.u8.wrap ((W (Int.tmod x (4294967296 : Int))).tmod (256 : Int))])))
noncomputable def ref29_Eight (x : Int) : Option (ByteArray) := (ref29_Eight.t x).run
noncomputable def ref29_Eight.q : List AV → T AV := entry [(.int .u64)] (outR [.str]) fun x => .opt (ref29_Eight x) .ret
theorem ref29_Eight.ok : FnOK Try.prog 59 ref29_Eight.q :=
  entry_call (ps := [(.int .u64)]) (rs := [.str]) (F := (dp Try.prog (ext Xs 58 ref29_Four.q) deeps 100 8)) (D := (inL deeps.D)) (S := tabS []) (t := ref29_Eight.t) mixed (dp_ok mixed (quiet_ext Xok ref29_Four.ok) deepsOk 100 8).1 (dp_ok mixed (quiet_ext Xok ref29_Four.ok) deepsOk 100 8).2 Try.func59 (by kernel_rfl) (sok_fn trivial) (by kernel_rfl) (fun x => by kernel_rfl)
end Go.Proofs.Pen

namespace Go.Proofs.Pen
open Go Go.Proofs
def ref29_Encode.L0 : List (Nat × Lay) := [(1, .box TPic), (3, .val .str), (4, .val TI)]
noncomputable def ref29_Encode.t0 (x : (Int × Int × List (Option Nat) × List (Int)) × ByteArray × Int × Unit) : T (Ex × (Int × Int × List (Option Nat) × List (Int)) × ByteArray × Int × Unit) := T.ite (decide (x.2.2.1 < (↑(List.length x.1.2.2.1) : Int))) (T.opt (lget x.1.2.2.1 x.2.2.1) fun y => T.opt (ref29_Bits y) fun y => T.opt (ref29_Eight y) fun y => T.ite (decide ((↑(ByteArray.size x.2.1 + y.size) : Int) > IntKind.i64.max)) T.fail (T.ret (Ex.normal, x.1, x.2.1 ++ y, W (x.2.2.1 + (1 : Int)), ()))) (T.ret (Ex.exit (0 : Nat), x.1, x.2.1, x.2.2.1, ()))
noncomputable def ref29_Encode.l0 (x : (Int × Int × List (Option Nat) × List (Int)) × ByteArray × Int × Unit) : Option (Ex × (Int × Int × List (Option Nat) × List (Int)) × ByteArray × Int × Unit) := (iterT ref29_Encode.t0 rounds x).run
theorem ref29_Encode.k0 : bodies 0 (lp Try.f15 []) = [.loop (loopIn 0 (lp Try.f15 []))] ∧ WP Try.prog 0 (.block 0 (.loop (loopIn 0 (lp Try.f15 [])))) (loopS ref29_Encode.L0 46 0 [.exit 0] ref29_Encode.l0) :=
  loop_tree (L := ref29_Encode.L0) (F := (dp Try.prog (ext (ext (ext Xs 58 ref29_Four.q) 22 ref29_Bits.q) 59 ref29_Eight.q) deeps 100 8)) (D := (inL deeps.D)) (tab := []) (t := ref29_Encode.t0) mixed (dp_ok mixed (quiet_ext (quiet_ext (quiet_ext Xok ref29_Four.ok) ref29_Bits.ok) ref29_Eight.ok) deepsOk 100 8).1 (dp_ok mixed (quiet_ext (quiet_ext (quiet_ext Xok ref29_Four.ok) ref29_Bits.ok) ref29_Eight.ok) deepsOk 100 8).2 (fun _ => rfl) (by kernel_rfl) (by kernel_rfl) trivial (fun x => by kernel_rfl)
def ref29_Encode.L2 : List (Nat × Lay) := [(1, .box TPic), (3, .val .str), (5, .val TI)]
noncomputable def ref29_Encode.t2 (x : (Int × Int × List (Option Nat) × List (Int)) × ByteArray × Int × Unit) : T (Ex × (Int × Int × List (Option Nat) × List (Int)) × ByteArray × Int × Unit) := T.ite (decide (x.2.2.1 < (↑(List.length x.1.2.2.2) : Int))) (T.opt (lget x.1.2.2.2 x.2.2.1) fun y => T.ite (decide ((↑(ByteArray.size x.2.1 + (ofBytes (List.take (4 : Nat) [IntKind.u8.wrap ((W (Int.tdiv y (16777216 : Int))).tmod (256 : Int)), IntKind.u8.wrap ((W (Int.tdiv y (65536 : Int))).tmod (256 : Int)), IntKind.u8.wrap ((W (Int.tdiv y (256 : Int))).tmod (256 : Int)), IntKind.u8.wrap (Int.tmod y (256 : Int))])).size) : Int) > IntKind.i64.max)) T.fail (T.ret (Ex.normal, x.1, x.2.1 ++ ofBytes (List.take (4 : Nat) [IntKind.u8.wrap ((W (Int.tdiv y (16777216 : Int))).tmod (256 : Int)), IntKind.u8.wrap ((W (Int.tdiv y (65536 : Int))).tmod (256 : Int)), IntKind.u8.wrap ((W (Int.tdiv y (256 : Int))).tmod (256 : Int)), IntKind.u8.wrap (Int.tmod y (256 : Int))]), W (x.2.2.1 + (1 : Int)), ()))) (T.ret (Ex.exit (2 : Nat), x.1, x.2.1, x.2.2.1, ()))
noncomputable def ref29_Encode.l2 (x : (Int × Int × List (Option Nat) × List (Int)) × ByteArray × Int × Unit) : Option (Ex × (Int × Int × List (Option Nat) × List (Int)) × ByteArray × Int × Unit) := (iterT ref29_Encode.t2 rounds x).run
theorem ref29_Encode.k2 : bodies 2 (lp Try.f15 []) = [.loop (loopIn 2 (lp Try.f15 []))] ∧ WP Try.prog 0 (.block 2 (.loop (loopIn 2 (lp Try.f15 [])))) (loopS ref29_Encode.L2 46 2 [.exit 2] ref29_Encode.l2) :=
  loop_tree (L := ref29_Encode.L2) (F := (dp Try.prog (ext (ext (ext Xs 58 ref29_Four.q) 22 ref29_Bits.q) 59 ref29_Eight.q) deeps 100 8)) (D := (inL deeps.D)) (tab := []) (t := ref29_Encode.t2) mixed (dp_ok mixed (quiet_ext (quiet_ext (quiet_ext Xok ref29_Four.ok) ref29_Bits.ok) ref29_Eight.ok) deepsOk 100 8).1 (dp_ok mixed (quiet_ext (quiet_ext (quiet_ext Xok ref29_Four.ok) ref29_Bits.ok) ref29_Eight.ok) deepsOk 100 8).2 (fun _ => rfl) (by kernel_rfl) (by kernel_rfl) trivial (fun x => by kernel_rfl)
noncomputable def ref29_Encode.t (x : (Int × Int × List (Option Nat) × List (Int))) : T (ByteArray) := T.ite (decide ((↑((ByteArray.mk #[(80 : UInt8), (78 : UInt8), (66 : UInt8), (1 : UInt8)]).size + (ofBytes (List.take (4 : Nat) [IntKind.u8.wrap ((W (Int.tdiv x.1 (16777216 : Int))).tmod (256 : Int)), IntKind.u8.wrap ((W (Int.tdiv x.1 (65536 : Int))).tmod (256 : Int)), IntKind.u8.wrap ((W (Int.tdiv x.1 (256 : Int))).tmod (256 : Int)), IntKind.u8.wrap (Int.tmod x.1 (256 : Int))])).size) : Int) > IntKind.i64.max)) T.fail (T.ite (decide ((↑(((ByteArray.mk #[(80 : UInt8), (78 : UInt8), (66 : UInt8), (1 : UInt8)]) ++ ofBytes (List.take (4 : Nat) [IntKind.u8.wrap ((W (Int.tdiv x.1 (16777216 : Int))).tmod (256 : Int)), IntKind.u8.wrap ((W (Int.tdiv x.1 (65536 : Int))).tmod (256 : Int)), IntKind.u8.wrap ((W (Int.tdiv x.1 (256 : Int))).tmod (256 : Int)), IntKind.u8.wrap (Int.tmod x.1 (256 : Int))])).size + (ofBytes (List.take (4 : Nat) [IntKind.u8.wrap ((W (Int.tdiv x.2.1 (16777216 : Int))).tmod (256 : Int)), IntKind.u8.wrap ((W (Int.tdiv x.2.1 (65536 : Int))).tmod (256 : Int)), IntKind.u8.wrap ((W (Int.tdiv x.2.1 (256 : Int))).tmod (256 : Int)), IntKind.u8.wrap (Int.tmod x.2.1 (256 : Int))])).size) : Int) > IntKind.i64.max)) T.fail (T.opt (ref29_Encode.l0 (x, (ByteArray.mk #[(80 : UInt8), (78 : UInt8), (66 : UInt8), (1 : UInt8)]) ++ ofBytes (List.take (4 : Nat) [IntKind.u8.wrap ((W (Int.tdiv x.1 (16777216 : Int))).tmod (256 : Int)), IntKind.u8.wrap ((W (Int.tdiv x.1 (65536 : Int))).tmod (256 : Int)), IntKind.u8.wrap ((W (Int.tdiv x.1 (256 : Int))).tmod (256 : Int)), IntKind.u8.wrap (Int.tmod x.1 (256 : Int))]) ++ ofBytes (List.take (4 : Nat) [IntKind.u8.wrap ((W (Int.tdiv x.2.1 (16777216 : Int))).tmod (256 : Int)), IntKind.u8.wrap ((W (Int.tdiv x.2.1 (65536 : Int))).tmod (256 : Int)), IntKind.u8.wrap ((W (Int.tdiv x.2.1 (256 : Int))).tmod (256 : Int)), IntKind.u8.wrap (Int.tmod x.2.1 (256 : Int))]), (0 : Int), ())) fun y => T.ite (exEq y.1 (Ex.exit (0 : Nat))) (T.opt (ref29_Encode.l2 (y.2.1, y.2.2.1, (0 : Int), ())) fun y => T.ite (exEq y.1 (Ex.exit (2 : Nat))) (T.ret y.2.2.1) T.fail) T.fail))
noncomputable def ref29_Encode (x : (Int × Int × List (Option Nat) × List (Int))) : Option (ByteArray) := (ref29_Encode.t x).run
noncomputable def ref29_Encode.q : List AV → T AV := entry [TPic] (outR [.str]) fun x => .opt (ref29_Encode x) .ret
theorem ref29_Encode.ok : FnOK Try.prog 15 ref29_Encode.q :=
  entry_call (ps := [TPic]) (rs := [.str]) (F := (dp Try.prog (ext (ext (ext Xs 58 ref29_Four.q) 22 ref29_Bits.q) 59 ref29_Eight.q) deeps 100 8)) (D := (inL deeps.D)) (S := tabS [(0, loopS ref29_Encode.L0 46 0 [.exit 0] ref29_Encode.l0), (2, loopS ref29_Encode.L2 46 2 [.exit 2] ref29_Encode.l2)]) (t := ref29_Encode.t) mixed (dp_ok mixed (quiet_ext (quiet_ext (quiet_ext Xok ref29_Four.ok) ref29_Bits.ok) ref29_Eight.ok) deepsOk 100 8).1 (dp_ok mixed (quiet_ext (quiet_ext (quiet_ext Xok ref29_Four.ok) ref29_Bits.ok) ref29_Eight.ok) deepsOk 100 8).2 Try.func15 (by kernel_rfl) (sok_fn ⟨ref29_Encode.k0, ref29_Encode.k2, trivial⟩) (by kernel_rfl) (fun x => by kernel_rfl)
end Go.Proofs.Pen

namespace Go.Proofs.Pen
open Go Go.Proofs
def ref01_Ints.L0 : List (Nat × Lay) := [(0, .val (.sl TI)), (1, .val (.sl TI)), (4, .val .bool), (5, .val TI)]
noncomputable def ref01_Ints.t0 (x : (List (Int)) × (List (Int)) × Bool × Int × Unit) : T (Ex × (List (Int)) × (List (Int)) × Bool × Int × Unit) := T.ite (decide (x.2.2.2.1 < (↑(List.length x.1) : Int))) (T.opt (lget x.1 x.2.2.2.1) fun y => T.opt (lget x.2.1 x.2.2.2.1) fun y_1 => T.ite (y != y_1) (T.ret (Ex.ret, x.1, x.2.1, false, x.2.2.2.1, ())) (T.ret (Ex.normal, x.1, x.2.1, x.2.2.1, W (x.2.2.2.1 + (1 : Int)), ()))) (T.ret (Ex.exit (0 : Nat), x.1, x.2.1, x.2.2.1, x.2.2.2.1, ()))
noncomputable def ref01_Ints.l0 (x : (List (Int)) × (List (Int)) × Bool × Int × Unit) : Option (Ex × (List (Int)) × (List (Int)) × Bool × Int × Unit) := (iterT ref01_Ints.t0 rounds x).run
theorem ref01_Ints.k0 : bodies 0 (lp Try.f33 []) = [.loop (loopIn 0 (lp Try.f33 []))] ∧ WP Try.prog 0 (.block 0 (.loop (loopIn 0 (lp Try.f33 [])))) (loopS ref01_Ints.L0 26 0 [.exit 0, .ret] ref01_Ints.l0) :=
  loop_tree (L := ref01_Ints.L0) (F := (dp Try.prog Xs deeps 100 8)) (D := (inL deeps.D)) (tab := []) (t := ref01_Ints.t0) mixed (dp_ok mixed Xok deepsOk 100 8).1 (dp_ok mixed Xok deepsOk 100 8).2 (fun _ => rfl) (by kernel_rfl) (by kernel_rfl) trivial (fun x => by kernel_rfl)
noncomputable def ref01_Ints.t (x : (List (Int)) × (List (Int))) : T (Bool) := T.ite ((↑(List.length x.1) : Int) != (↑(List.length x.2) : Int)) (T.ret false) (T.opt (ref01_Ints.l0 (x.1, x.2, false, (0 : Int), ())) fun y => T.ite (exEq y.1 (Ex.exit (0 : Nat))) (T.ret true) (T.ite (exEq y.1 Ex.ret) (T.ret y.2.2.2.1) T.fail))
noncomputable def ref01_Ints (x : (List (Int)) × (List (Int))) : Option (Bool) := (ref01_Ints.t x).run
noncomputable def ref01_Ints.q : List AV → T AV := entry [(.sl TI), (.sl TI)] (outR [.bool]) fun x => .opt (ref01_Ints x) .ret
theorem ref01_Ints.ok : FnOK Try.prog 33 ref01_Ints.q :=
  entry_call (ps := [(.sl TI), (.sl TI)]) (rs := [.bool]) (F := (dp Try.prog Xs deeps 100 8)) (D := (inL deeps.D)) (S := tabS [(0, loopS ref01_Ints.L0 26 0 [.exit 0, .ret] ref01_Ints.l0)]) (t := ref01_Ints.t) mixed (dp_ok mixed Xok deepsOk 100 8).1 (dp_ok mixed Xok deepsOk 100 8).2 Try.func33 (by kernel_rfl) (sok_fn ⟨ref01_Ints.k0, trivial⟩) (by kernel_rfl) (fun x => by kernel_rfl)
end Go.Proofs.Pen

namespace Go.Proofs.Pen
open Go Go.Proofs
def law29_same.L0 : List (Nat × Lay) := [(2, .box TPic), (3, .box TPic), (4, .val .bool), (5, .val TI)]
noncomputable def law29_same.t0 (x : (Int × Int × List (Option Nat) × List (Int)) × (Int × Int × List (Option Nat) × List (Int)) × Bool × Int × Unit) : T (Ex × (Int × Int × List (Option Nat) × List (Int)) × (Int × Int × List (Option Nat) × List (Int)) × Bool × Int × Unit) := T.ite (decide (x.2.2.2.1 < (↑(List.length x.1.2.2.1) : Int))) (T.opt (lget x.1.2.2.1 x.2.2.2.1) fun y => T.opt (lget x.2.1.2.2.1 x.2.2.2.1) fun y_1 => T.opt (ref29_Same (y, y_1)) fun y => T.ite (!y) (T.ret (Ex.ret, x.1, x.2.1, false, x.2.2.2.1, ())) (T.ret (Ex.normal, x.1, x.2.1, x.2.2.1, W (x.2.2.2.1 + (1 : Int)), ()))) (T.ret (Ex.exit (0 : Nat), x.1, x.2.1, x.2.2.1, x.2.2.2.1, ()))
noncomputable def law29_same.l0 (x : (Int × Int × List (Option Nat) × List (Int)) × (Int × Int × List (Option Nat) × List (Int)) × Bool × Int × Unit) : Option (Ex × (Int × Int × List (Option Nat) × List (Int)) × (Int × Int × List (Option Nat) × List (Int)) × Bool × Int × Unit) := (iterT law29_same.t0 rounds x).run
theorem law29_same.k0 : bodies 0 (lp Try.f16 []) = [.loop (loopIn 0 (lp Try.f16 []))] ∧ WP Try.prog 0 (.block 0 (.loop (loopIn 0 (lp Try.f16 [])))) (loopS law29_same.L0 54 0 [.exit 0, .ret] law29_same.l0) :=
  loop_tree (L := law29_same.L0) (F := (dp Try.prog (ext (ext Xs 33 ref01_Ints.q) 23 ref29_Same.q) deeps 100 8)) (D := (inL deeps.D)) (tab := []) (t := law29_same.t0) mixed (dp_ok mixed (quiet_ext (quiet_ext Xok ref01_Ints.ok) ref29_Same.ok) deepsOk 100 8).1 (dp_ok mixed (quiet_ext (quiet_ext Xok ref01_Ints.ok) ref29_Same.ok) deepsOk 100 8).2 (fun _ => rfl) (by kernel_rfl) (by kernel_rfl) trivial (fun x => by kernel_rfl)
noncomputable def law29_same.t (x : (Int × Int × List (Option Nat) × List (Int)) × (Int × Int × List (Option Nat) × List (Int))) : T (Bool) := T.ite (x.1.1 != x.2.1 || x.1.2.1 != x.2.2.1 || (↑(List.length x.1.2.2.1) : Int) != (↑(List.length x.2.2.2.1) : Int)) (T.ret false) (T.opt (ref01_Ints (x.1.2.2.2, x.2.2.2.2)) fun y => T.ite (!y) (T.ret false) (T.opt (law29_same.l0 (x.1, x.2, false, (0 : Int), ())) fun y => T.ite (exEq y.1 (Ex.exit (0 : Nat))) (T.ret true) (T.ite (exEq y.1 Ex.ret) (T.ret y.2.2.2.1) T.fail)))
noncomputable def law29_same (x : (Int × Int × List (Option Nat) × List (Int)) × (Int × Int × List (Option Nat) × List (Int))) : Option (Bool) := (law29_same.t x).run
noncomputable def law29_same.q : List AV → T AV := entry [TPic, TPic] (outR [.bool]) fun x => .opt (law29_same x) .ret
theorem law29_same.ok : FnOK Try.prog 16 law29_same.q :=
  entry_call (ps := [TPic, TPic]) (rs := [.bool]) (F := (dp Try.prog (ext (ext Xs 33 ref01_Ints.q) 23 ref29_Same.q) deeps 100 8)) (D := (inL deeps.D)) (S := tabS [(0, loopS law29_same.L0 54 0 [.exit 0, .ret] law29_same.l0)]) (t := law29_same.t) mixed (dp_ok mixed (quiet_ext (quiet_ext Xok ref01_Ints.ok) ref29_Same.ok) deepsOk 100 8).1 (dp_ok mixed (quiet_ext (quiet_ext Xok ref01_Ints.ok) ref29_Same.ok) deepsOk 100 8).2 Try.func16 (by kernel_rfl) (sok_fn ⟨law29_same.k0, trivial⟩) (by kernel_rfl) (fun x => by kernel_rfl)
end Go.Proofs.Pen

namespace Go.Proofs.Pen
open Go Go.Proofs
noncomputable def image_Same_1.t (x : (Option Nat) × (Option Nat)) : T (Bool) := T.opt (image_Bits x.1) fun y => T.opt (image_Bits x.2) fun y_1 => T.ret (y == y_1)
noncomputable def image_Same_1 (x : (Option Nat) × (Option Nat)) : Option (Bool) := (image_Same_1.t x).run
noncomputable def image_Same_1.q : List AV → T AV := entry [.flt, .flt] (outR [.bool]) fun x => .opt (image_Same_1 x) .ret
theorem image_Same_1.ok : FnOK Try.prog 60 image_Same_1.q :=
  entry_call (ps := [.flt, .flt]) (rs := [.bool]) (F := (dp Try.prog (ext Xs 21 image_Bits.q) deeps 100 8)) (D := (inL deeps.D)) (S := tabS []) (t := image_Same_1.t) mixed (dp_ok mixed (quiet_ext Xok image_Bits.ok) deepsOk 100 8).1 (dp_ok mixed (quiet_ext Xok image_Bits.ok) deepsOk 100 8).2 Try.func60 (by kernel_rfl) (sok_fn trivial) (by kernel_rfl) (fun x => by kernel_rfl)
end Go.Proofs.Pen

namespace Go.Proofs.Pen
open Go Go.Proofs
def EqF.L0 : List (Nat × Lay) := [(1, .val (.sl .flt)), (2, .val (.clo 60 .unit)), (6, .val .bool), (15, .val (.sl .flt)), (16, .val TI), (17, .val TI)]
noncomputable def EqF.t0 (x : (List (Option Nat)) × Unit × Bool × (List (Option Nat)) × Int × Int × Unit) : T (Ex × (List (Option Nat)) × Unit × Bool × (List (Option Nat)) × Int × Int × Unit) := T.ite (decide (x.2.2.2.2.2.1 < x.2.2.2.2.1)) (T.opt (lget x.2.2.2.1 x.2.2.2.2.2.1) fun y => T.opt (lget x.1 x.2.2.2.2.2.1) fun y_1 => T.opt (image_Same_1 (y, y_1)) fun y => T.ite (!y) (T.ret (Ex.ret, x.1, (), false, x.2.2.2.1, x.2.2.2.2.1, x.2.2.2.2.2.1, ())) (T.ret (Ex.normal, x.1, (), x.2.2.1, x.2.2.2.1, x.2.2.2.2.1, W (x.2.2.2.2.2.1 + (1 : Int)), ()))) (T.ret (Ex.exit (0 : Nat), x.1, (), x.2.2.1, x.2.2.2.1, x.2.2.2.2.1, x.2.2.2.2.2.1, ()))
noncomputable def EqF.l0 (x : (List (Option Nat)) × Unit × Bool × (List (Option Nat)) × Int × Int × Unit) : Option (Ex × (List (Option Nat)) × Unit × Bool × (List (Option Nat)) × Int × Int × Unit) := (iterT EqF.t0 rounds x).run
theorem EqF.k0 : bodies 0 (lp Try.f61 []) = [.loop (loopIn 0 (lp Try.f61 []))] ∧ WP Try.prog 0 (.block 0 (.loop (loopIn 0 (lp Try.f61 [])))) (loopS EqF.L0 32 0 [.exit 0, .ret] EqF.l0) :=
  loop_tree (L := EqF.L0) (F := (dp Try.prog (ext Xs 60 image_Same_1.q) deeps 100 8)) (D := (inL deeps.D)) (tab := []) (t := EqF.t0) mixed (dp_ok mixed (quiet_ext Xok image_Same_1.ok) deepsOk 100 8).1 (dp_ok mixed (quiet_ext Xok image_Same_1.ok) deepsOk 100 8).2 (fun _ => rfl) (by kernel_rfl) (by kernel_rfl) trivial (fun x => by kernel_rfl)
noncomputable def EqF.t (x : (List (Option Nat)) × (List (Option Nat)) × Unit) : T (Bool) := T.ite ((↑(List.length x.1) : Int) != (↑(List.length x.2.1) : Int)) (T.ret false) (T.opt (EqF.l0 (x.2.1, (), false, x.1, (↑(List.length x.1) : Int), (0 : Int), ())) fun y => T.ite (exEq y.1 (Ex.exit (0 : Nat))) (T.ret true) (T.ite (exEq y.1 Ex.ret) (T.ret y.2.2.2.1) T.fail))
noncomputable def EqF (x : (List (Option Nat)) × (List (Option Nat)) × Unit) : Option (Bool) := (EqF.t x).run
noncomputable def EqF.q : List AV → T AV := entry [(.sl .flt), (.sl .flt), (.clo 60 .unit)] (outR [.bool]) fun x => .opt (EqF x) .ret
theorem EqF.ok : FnOK Try.prog 61 EqF.q :=
  entry_call (ps := [(.sl .flt), (.sl .flt), (.clo 60 .unit)]) (rs := [.bool]) (F := (dp Try.prog (ext Xs 60 image_Same_1.q) deeps 100 8)) (D := (inL deeps.D)) (S := tabS [(0, loopS EqF.L0 32 0 [.exit 0, .ret] EqF.l0)]) (t := EqF.t) mixed (dp_ok mixed (quiet_ext Xok image_Same_1.ok) deepsOk 100 8).1 (dp_ok mixed (quiet_ext Xok image_Same_1.ok) deepsOk 100 8).2 Try.func61 (by kernel_rfl) (sok_fn ⟨EqF.k0, trivial⟩) (by kernel_rfl) (fun x => by kernel_rfl)
end Go.Proofs.Pen

namespace Go.Proofs.Pen
open Go Go.Proofs
def slices_Equal.L0 : List (Nat × Lay) := [(0, .val (.sl TI)), (1, .val (.sl TI)), (4, .val .bool), (12, .val TI), (13, .val TI)]
noncomputable def slices_Equal.t0 (x : (List (Int)) × (List (Int)) × Bool × Int × Int × Unit) : T (Ex × (List (Int)) × (List (Int)) × Bool × Int × Int × Unit) := T.ite (decide (x.2.2.2.2.1 < x.2.2.2.1)) (T.opt (lget x.1 x.2.2.2.2.1) fun y => T.opt (lget x.2.1 x.2.2.2.2.1) fun y_1 => T.ite (y != y_1) (T.ret (Ex.ret, x.1, x.2.1, false, x.2.2.2.1, x.2.2.2.2.1, ())) (T.ret (Ex.normal, x.1, x.2.1, x.2.2.1, x.2.2.2.1, W (x.2.2.2.2.1 + (1 : Int)), ()))) (T.ret (Ex.exit (0 : Nat), x.1, x.2.1, x.2.2.1, x.2.2.2.1, x.2.2.2.2.1, ()))
noncomputable def slices_Equal.l0 (x : (List (Int)) × (List (Int)) × Bool × Int × Int × Unit) : Option (Ex × (List (Int)) × (List (Int)) × Bool × Int × Int × Unit) := (iterT slices_Equal.t0 rounds x).run
theorem slices_Equal.k0 : bodies 0 (lp Try.f62 []) = [.loop (loopIn 0 (lp Try.f62 []))] ∧ WP Try.prog 0 (.block 0 (.loop (loopIn 0 (lp Try.f62 [])))) (loopS slices_Equal.L0 26 0 [.exit 0, .ret] slices_Equal.l0) :=
  loop_tree (L := slices_Equal.L0) (F := (dp Try.prog Xs deeps 100 8)) (D := (inL deeps.D)) (tab := []) (t := slices_Equal.t0) mixed (dp_ok mixed Xok deepsOk 100 8).1 (dp_ok mixed Xok deepsOk 100 8).2 (fun _ => rfl) (by kernel_rfl) (by kernel_rfl) trivial (fun x => by kernel_rfl)
noncomputable def slices_Equal.t (x : (List (Int)) × (List (Int))) : T (Bool) := T.ite ((↑(List.length x.1) : Int) != (↑(List.length x.2) : Int)) (T.ret false) (T.opt (slices_Equal.l0 (x.1, x.2, false, (↑(List.length x.1) : Int), (0 : Int), ())) fun y => T.ite (exEq y.1 (Ex.exit (0 : Nat))) (T.ret true) (T.ite (exEq y.1 Ex.ret) (T.ret y.2.2.2.1) T.fail))
noncomputable def slices_Equal (x : (List (Int)) × (List (Int))) : Option (Bool) := (slices_Equal.t x).run
noncomputable def slices_Equal.q : List AV → T AV := entry [(.sl TI), (.sl TI)] (outR [.bool]) fun x => .opt (slices_Equal x) .ret
theorem slices_Equal.ok : FnOK Try.prog 62 slices_Equal.q :=
  entry_call (ps := [(.sl TI), (.sl TI)]) (rs := [.bool]) (F := (dp Try.prog Xs deeps 100 8)) (D := (inL deeps.D)) (S := tabS [(0, loopS slices_Equal.L0 26 0 [.exit 0, .ret] slices_Equal.l0)]) (t := slices_Equal.t) mixed (dp_ok mixed Xok deepsOk 100 8).1 (dp_ok mixed Xok deepsOk 100 8).2 Try.func62 (by kernel_rfl) (sok_fn ⟨slices_Equal.k0, trivial⟩) (by kernel_rfl) (fun x => by kernel_rfl)
end Go.Proofs.Pen

namespace Go.Proofs.Pen
open Go Go.Proofs
noncomputable def image_Same.t (x : (Int × Int × List (Option Nat) × List (Int)) × (Int × Int × List (Option Nat) × List (Int))) : T (Bool) := T.ite (x.1.1 == x.2.1 && x.1.2.1 == x.2.2.1) (T.opt (EqF (x.1.2.2.1, x.2.2.2.1, ())) fun y => T.ite y (T.opt (slices_Equal (x.1.2.2.2, x.2.2.2.2)) fun y => T.ret y) (T.ret false)) (T.ret false)
noncomputable def image_Same (x : (Int × Int × List (Option Nat) × List (Int)) × (Int × Int × List (Option Nat) × List (Int))) : Option (Bool) := (image_Same.t x).run
noncomputable def image_Same.q : List AV → T AV := entry [TPic, TPic] (outR [.bool]) fun x => .opt (image_Same x) .ret
theorem image_Same.ok : FnOK Try.prog 17 image_Same.q :=
  entry_call (ps := [TPic, TPic]) (rs := [.bool]) (F := (dp Try.prog (ext (ext (ext Xs 60 image_Same_1.q) 61 EqF.q) 62 slices_Equal.q) deeps 100 8)) (D := (inL deeps.D)) (S := tabS []) (t := image_Same.t) mixed (dp_ok mixed (quiet_ext (quiet_ext (quiet_ext Xok image_Same_1.ok) EqF.ok) slices_Equal.ok) deepsOk 100 8).1 (dp_ok mixed (quiet_ext (quiet_ext (quiet_ext Xok image_Same_1.ok) EqF.ok) slices_Equal.ok) deepsOk 100 8).2 Try.func17 (by kernel_rfl) (sok_fn trivial) (by kernel_rfl) (fun x => by kernel_rfl)
end Go.Proofs.Pen

namespace Go.Proofs.Pen
open Go Go.Proofs
noncomputable def law29_ImageEncodes.t (x : (Int × Int × List (Option Nat) × List (Int))) : T (Bool) := T.ite (!(decide ((↑x.2.2.1.length : Int) ≤ (200 : Int)) && decide ((↑x.2.2.2.length : Int) ≤ (100 : Int)))) (T.ret true) (T.opt (image_Encode x) fun y => T.opt (ref29_May x) fun y_1 => T.ite (!y_1) (T.ret (ByteArray.toList y.1 == (ByteArray.mk #[]).toList && y.2 == (2 : Int))) (T.opt (image_Decode y.1) fun y_2 => T.ite true (T.opt (ref29_Encode x) fun y_3 => T.ite (ByteArray.toList y.1 == y_3.toList && y.2 == (0 : Int) && y_2.snd == (0 : Int)) (T.opt (law29_same (x, y_2.fst)) fun y_4 => T.ite y_4 (T.opt (image_Same (x, y_2.fst)) fun y_5 => T.ite y_5 (T.opt (image_Size (x.1, x.2.1)) fun y_6 => T.ret ((↑(ByteArray.size y.1) : Int) == y_6)) (T.ret false)) (T.ret false)) (T.ret false)) (T.ret false)))
noncomputable def law29_ImageEncodes (x : (Int × Int × List (Option Nat) × List (Int))) : Option (Bool) := (law29_ImageEncodes.t x).run
noncomputable def law29_ImageEncodes.q : List AV → T AV := entry [TPic] (outR [.bool]) fun x => .opt (law29_ImageEncodes x) .ret
theorem law29_ImageEncodes.ok : FnOK Try.prog 3 law29_ImageEncodes.q :=
  entry_call (ps := [TPic]) (rs := [.bool]) (F := (dp Try.prog (ext (ext (ext (ext (ext (ext (ext (ext (ext (ext (ext (ext Xs 10 law29_few.q) 11 law29_awake.q) 12 image_Encode.q) 13 ref29_May.q) 14 image_Decode.q) 15 ref29_Encode.q) 16 law29_same.q) 17 image_Same.q) 18 image_Size.q) 60 image_Same_1.q) 98 image_may_1.q) 99 image_may_2.q) deeps 100 8)) (D := (inL deeps.D)) (S := tabS []) (t := law29_ImageEncodes.t) mixed (dp_ok mixed (quiet_ext (quiet_ext (quiet_ext (quiet_ext (quiet_ext (quiet_ext (quiet_ext (quiet_ext (quiet_ext (quiet_ext (quiet_ext (quiet_ext Xok law29_few.ok) law29_awake.ok) image_Encode.ok) ref29_May.ok) image_Decode.ok) ref29_Encode.ok) law29_same.ok) image_Same.ok) image_Size.ok) image_Same_1.ok) image_may_1.ok) image_may_2.ok) deepsOk 100 8).1 (dp_ok mixed (quiet_ext (quiet_ext (quiet_ext (quiet_ext (quiet_ext (quiet_ext (quiet_ext (quiet_ext (quiet_ext (quiet_ext (quiet_ext (quiet_ext Xok law29_few.ok) law29_awake.ok) image_Encode.ok) ref29_May.ok) image_Decode.ok) ref29_Encode.ok) law29_same.ok) image_Same.ok) image_Size.ok) image_Same_1.ok) image_may_1.ok) image_may_2.ok) deepsOk 100 8).2 Try.func3 (by kernel_rfl) (sok_fn trivial) (by kernel_rfl) (fun x => by kernel_rfl)
end Go.Proofs.Pen

namespace Go.Proofs.Pen
open Go Go.Proofs
noncomputable def ref29_number.t (x : ByteArray × Int) : T (Int) := T.opt (sget x.1 x.2) fun y => T.opt (sget x.1 (W (x.2 + (1 : Int)))) fun y_1 => T.opt (sget x.1 (W (x.2 + (2 : Int)))) fun y_2 => T.opt (sget x.1 (W (x.2 + (3 : Int)))) fun y_3 => T.ret (W (W (W (W (W y * (16777216 : Int)) + W (W y_1 * (65536 : Int))) + W (W y_2 * (256 : Int))) + W y_3))
noncomputable def ref29_number (x : ByteArray × Int) : Option (Int) := (ref29_number.t x).run
noncomputable def ref29_number.q : List AV → T AV := entry [.str, TI] (outR [TI]) fun x => .opt (ref29_number x) .ret
theorem ref29_number.ok : FnOK Try.prog 63 ref29_number.q :=
  entry_call (ps := [.str, TI]) (rs := [TI]) (F := (dp Try.prog Xs deeps 100 8)) (D := (inL deeps.D)) (S := tabS []) (t := ref29_number.t) mixed (dp_ok mixed Xok deepsOk 100 8).1 (dp_ok mixed Xok deepsOk 100 8).2 Try.func63 (by kernel_rfl) (sok_fn trivial) (by kernel_rfl) (fun x => by kernel_rfl)
end Go.Proofs.Pen

namespace Go.Proofs.Pen
open Go Go.Proofs
noncomputable def ref29_Sides.t (x : ByteArray) : T (Int × Int × Int) := T.ite (decide ((↑(ByteArray.size x) : Int) < (12 : Int))) (T.ret ((0 : Int), (0 : Int), (5 : Int))) (T.ite (decide ((0 : Int) ≤ (0 : Int)) && decide ((0 : Int) ≤ (4 : Int)) && decide ((4 : Int) ≤ (↑(ByteArray.size x) : Int))) (T.ite (!(ByteArray.extract x (Int.toNat (0 : Int)) (Int.toNat (4 : Int))).toList == (ByteArray.mk #[(80 : UInt8), (78 : UInt8), (66 : UInt8), (1 : UInt8)]).toList) (T.ret ((0 : Int), (0 : Int), (6 : Int))) (T.opt (ref29_number (x, (4 : Int))) fun y => T.opt (ref29_number (x, (8 : Int))) fun y_1 => T.ite (decide (y < (1 : Int)) || decide (y_1 < (1 : Int)) || decide (y > (8192 : Int)) || decide (y_1 > (8192 : Int)) || decide (W (y * y_1) > (65536 : Int))) (T.ret ((0 : Int), (0 : Int), (3 : Int))) (T.ite (decide ((↑(ByteArray.size x) : Int) < W ((12 : Int) + W (W ((28 : Int) * y) * y_1)))) (T.ret ((0 : Int), (0 : Int), (5 : Int))) (T.ite (decide ((↑(ByteArray.size x) : Int) > W ((12 : Int) + W (W ((28 : Int) * y) * y_1)))) (T.ret ((0 : Int), (0 : Int), (6 : Int))) (T.ret (y, y_1, (0 : Int))))))) T.fail)
noncomputable def ref29_Sides (x : ByteArray) : Option (Int × Int × Int) := (ref29_Sides.t x).run
noncomputable def ref29_Sides.q : List AV → T AV := entry [.str] (outR [TI, TI, TI]) fun x => .opt (ref29_Sides x) .ret
theorem ref29_Sides.ok : FnOK Try.prog 19 ref29_Sides.q :=
  entry_call (ps := [.str]) (rs := [TI, TI, TI]) (F := (dp Try.prog (ext Xs 63 ref29_number.q) deeps 100 8)) (D := (inL deeps.D)) (S := tabS []) (t := ref29_Sides.t) mixed (dp_ok mixed (quiet_ext Xok ref29_number.ok) deepsOk 100 8).1 (dp_ok mixed (quiet_ext Xok ref29_number.ok) deepsOk 100 8).2 Try.func19 (by kernel_rfl) (sok_fn trivial) (by kernel_rfl) (fun x => by kernel_rfl)
end Go.Proofs.Pen

namespace Go.Proofs.Pen
open Go Go.Proofs
noncomputable def law29_ImageDecodes.t (x : ByteArray) : T (Bool) := T.ite (decide ((↑(ByteArray.size x) : Int) > (3000 : Int))) (T.ret true) (T.opt (image_Decode x) fun y => T.opt (ref29_Sides x) fun y_1 => T.ite (y_1.snd.snd != (0 : Int)) (T.ite (y.2 == y_1.snd.snd) (T.opt (law29_same (y.1, (0 : Int), (0 : Int), [], [])) fun y => T.ret y) (T.ret false)) (T.ite (y.2 != (0 : Int)) (T.ite (y.2 == (6 : Int)) (T.opt (law29_same (y.1, (0 : Int), (0 : Int), [], [])) fun y => T.ret y) (T.ret false)) (T.ite true (T.opt (ref29_May y.1) fun y_2 => T.ite y_2 (T.opt (ref29_Encode y.1) fun y_3 => T.ret (y_3.toList == ByteArray.toList x && y.1.1 == y_1.fst && y.1.2.1 == y_1.snd.fst)) (T.ret false)) (T.ret false))))
noncomputable def law29_ImageDecodes (x : ByteArray) : Option (Bool) := (law29_ImageDecodes.t x).run
noncomputable def law29_ImageDecodes.q : List AV → T AV := entry [.str] (outR [.bool]) fun x => .opt (law29_ImageDecodes x) .ret
theorem law29_ImageDecodes.ok : FnOK Try.prog 4 law29_ImageDecodes.q :=
  entry_call (ps := [.str]) (rs := [.bool]) (F := (dp Try.prog (ext (ext (ext (ext (ext (ext (ext (ext (ext Xs 11 law29_awake.q) 14 image_Decode.q) 19 ref29_Sides.q) 16 law29_same.q) 13 ref29_May.q) 15 ref29_Encode.q) 60 image_Same_1.q) 98 image_may_1.q) 99 image_may_2.q) deeps 100 8)) (D := (inL deeps.D)) (S := tabS []) (t := law29_ImageDecodes.t) mixed (dp_ok mixed (quiet_ext (quiet_ext (quiet_ext (quiet_ext (quiet_ext (quiet_ext (quiet_ext (quiet_ext (quiet_ext Xok law29_awake.ok) image_Decode.ok) ref29_Sides.ok) law29_same.ok) ref29_May.ok) ref29_Encode.ok) image_Same_1.ok) image_may_1.ok) image_may_2.ok) deepsOk 100 8).1 (dp_ok mixed (quiet_ext (quiet_ext (quiet_ext (quiet_ext (quiet_ext (quiet_ext (quiet_ext (quiet_ext (quiet_ext Xok law29_awake.ok) image_Decode.ok) ref29_Sides.ok) law29_same.ok) ref29_May.ok) ref29_Encode.ok) image_Same_1.ok) image_may_1.ok) image_may_2.ok) deepsOk 100 8).2 Try.func4 (by kernel_rfl) (sok_fn trivial) (by kernel_rfl) (fun x => by kernel_rfl)
end Go.Proofs.Pen

namespace Go.Proofs.Pen
open Go Go.Proofs
noncomputable def law29_ImageShort.t (x : ((Int × Int × List (Option Nat) × List (Int)) × Int × Int × Int)) : T (Bool) := T.ite (!(decide ((↑x.1.2.2.1.length : Int) ≤ (200 : Int)) && decide ((↑x.1.2.2.2.length : Int) ≤ (100 : Int)))) (T.ret true) (T.opt (ref29_May x.1) fun y => T.ite (!y) (T.ret true) (T.opt (ref29_Encode x.1) fun y => T.ite ((↑y.size : Int) == (0 : Int)) T.fail (T.ite (decide ((0 : Int) ≤ (0 : Int)) && decide ((0 : Int) ≤ (W x.2.1).tmod (↑y.size : Int)) && decide ((W x.2.1).tmod (↑y.size : Int) ≤ (↑y.size : Int))) (T.opt (image_Decode (y.extract (Int.toNat (0 : Int)) ((W x.2.1).tmod (↑y.size : Int)).toNat)) fun y_1 => T.ite (decide ((0 : Int) ≤ Int.tmod x.2.2.1 (4 : Int)) && decide (Int.tmod x.2.2.1 (4 : Int) < (↑y.size : Int))) (T.opt (bytesOf y)[(0 : Nat) + (Int.tmod x.2.2.1 (4 : Int)).toNat]? fun y_2 => T.ite (decide ((0 : Int) ≤ Int.tmod x.2.2.1 (4 : Int)) && decide (Int.tmod x.2.2.1 (4 : Int) < (↑y.size : Int))) (T.opt (bytesOf y)[(0 : Nat) + (Int.tmod x.2.2.1 (4 : Int)).toNat]? fun y_3 => T.opt (image_Decode (ofBytes (List.take y.size ((bytesOf y).set ((0 : Nat) + (Int.tmod x.2.2.1 (4 : Int)).toNat) (IntKind.u8.wrap (↑(BitVec.ofInt IntKind.u8.bits y_2 ^^^ BitVec.ofInt IntKind.u8.bits x.2.2.2).toNat : Int)))))) fun y_4 => T.ite (decide ((↑(y.size + (ByteArray.mk #[(120 : UInt8)]).size) : Int) > IntKind.i64.max)) T.fail (T.opt (image_Decode (y ++ (ByteArray.mk #[(120 : UInt8)]))) fun y => T.ret (y_1.snd == (5 : Int) && (x.2.2.2 == (0 : Int) && y_4.snd == (0 : Int) || x.2.2.2 != (0 : Int) && y_4.snd == (6 : Int)) && y.2 == (6 : Int)))) T.fail) T.fail) T.fail)))
noncomputable def law29_ImageShort (x : ((Int × Int × List (Option Nat) × List (Int)) × Int × Int × Int)) : Option (Bool) := (law29_ImageShort.t x).run
noncomputable def law29_ImageShort.q : List AV → T AV := entry [(.st (.pair TPic (.pair (.int .u16) (.pair (.int .u8) (.int .u8)))))] (outR [.bool]) fun x => .opt (law29_ImageShort x) .ret
theorem law29_ImageShort.ok : FnOK Try.prog 5 law29_ImageShort.q :=
  entry_call (ps := [(.st (.pair TPic (.pair (.int .u16) (.pair (.int .u8) (.int .u8)))))]) (rs := [.bool]) (F := (dp Try.prog (ext (ext (ext (ext (ext (ext (ext (ext Xs 10 law29_few.q) 13 ref29_May.q) 11 law29_awake.q) 15 ref29_Encode.q) 14 image_Decode.q) 60 image_Same_1.q) 98 image_may_1.q) 99 image_may_2.q) deeps 100 8)) (D := (inL deeps.D)) (S := tabS []) (t := law29_ImageShort.t) mixed (dp_ok mixed (quiet_ext (quiet_ext (quiet_ext (quiet_ext (quiet_ext (quiet_ext (quiet_ext (quiet_ext Xok law29_few.ok) ref29_May.ok) law29_awake.ok) ref29_Encode.ok) image_Decode.ok) image_Same_1.ok) image_may_1.ok) image_may_2.ok) deepsOk 100 8).1 (dp_ok mixed (quiet_ext (quiet_ext (quiet_ext (quiet_ext (quiet_ext (quiet_ext (quiet_ext (quiet_ext Xok law29_few.ok) ref29_May.ok) law29_awake.ok) ref29_Encode.ok) image_Decode.ok) image_Same_1.ok) image_may_1.ok) image_may_2.ok) deepsOk 100 8).2 Try.func5 (by kernel_rfl) (sok_fn trivial) (by kernel_rfl) (fun x => by kernel_rfl)
end Go.Proofs.Pen

namespace Go.Proofs.Pen
open Go Go.Proofs

/-! ### Bytes -/
noncomputable def byteZ (z : Int) (s : Nat) : Int := IntKind.u8.wrap (z.fdiv (2 ^ s))

/-- Bytes laid one by one behind a row. -/
noncomputable def putT {α : Type} : List Nat → Nat → List Int → Int → (Nat → List Int → T α) → T α
  | [], len, l, _, k => k len l
  | s :: sh, len, l, z, k => T.ite false .fail (T.ite (decide ((len + 1) * 1 ≤ most)) (putT sh (len + 1) (List.take len l ++ [byteZ z s]) z k) .fail)

theorem putT_run {α : Type} : ∀ (sh : List Nat) (l : List Int) (z : Int) (k : Nat → List Int → T α), l.length + sh.length ≤ 1000000 → (putT sh l.length l z k).run = (k (l.length + sh.length) (l ++ sh.map (byteZ z))).run
  | [], l, z, k, _ => by simp [putT]
  | s :: sh, l, z, k, h => by
    simp only [List.length_cons] at h
    have hm : (l.length + 1) * 1 ≤ most := by unfold most; omega
    unfold putT
    rw [tr_ite, if_neg (by simp), tr_ite, decide_eq_true hm, if_pos rfl, List.take_length]
    have := putT_run sh (l ++ [byteZ z s]) z k (by simp only [List.length_append, List.length_cons, List.length_nil]; omega)
    simp only [List.length_append, List.length_cons, List.length_nil, Nat.zero_add] at this
    rw [this, List.map_cons, List.append_assoc]
    simp only [List.length_cons, List.singleton_append]
    rw [show l.length + 1 + sh.length = l.length + (sh.length + 1) by omega]

def sh8 : List Nat := [56, 48, 40, 32, 24, 16, 8, 0]
def sh4 : List Nat := [24, 16, 8, 0]

abbrev PicT : Type := Int × Int × List (Option Nat) × List Int

theorem enc_t0 (p : PicT) (b : List Int) (L : List (Option Nat)) (n i : Int) : image_Encode.t0 (p, b, L, n, i, ()) = T.ite (decide (i < n)) (T.opt (lget L i) fun y => T.opt (image_Bits y) fun z =>
    putT sh8 b.length b z fun len l => T.ret (.normal, p, List.take len l, L, n, W (i + 1), ())) (T.ret (.exit 0, p, List.take b.length b, L, n, i, ())) := by kernel_rfl

theorem enc_t2 (b : List Int) (D : List Int) (n i : Int) : image_Encode.t2 (b, D, n, i, ()) = T.ite (decide (i < n)) (T.opt (lget D i) fun y =>
    putT sh4 b.length b (IntKind.u64.wrap y) fun len l => T.ret (.normal, List.take len l, D, n, W (i + 1), ())) (T.ret (.exit 2, List.take b.length b, D, n, i, ())) := by kernel_rfl

theorem enc_t (x : PicT) : image_Encode.t x = T.opt (image_may x) fun y => T.ite (!y) (T.ret (ByteArray.mk #[], 2))
    (putT sh4 4 [80, 78, 66, 1] (IntKind.u64.wrap x.1) fun len l => putT sh4 len l (IntKind.u64.wrap x.2.1) fun len l =>
      T.opt (image_Encode.l0 (x, List.take len l, x.2.2.1, (x.2.2.1.length : Int), 0, ())) fun y => T.ite (exEq y.1 (.exit 0))
        (T.opt (image_Encode.l2 (List.take y.2.2.1.length y.2.2.1, y.2.1.2.2.2, (y.2.1.2.2.2.length : Int), 0, ())) fun y => T.ite (exEq y.1 (.exit 2)) (T.ret (ofBytes (List.take y.2.1.length y.2.1), 0)) T.fail) T.fail) := by kernel_rfl
end Go.Proofs.Pen

namespace Go.Proofs.Pen
open Go Go.Proofs

/-! ### What Encode lays -/
noncomputable def f8 (o : Option Nat) : List Int := sh8.map (byteZ ((o.getD 0 : Nat) : Int))
noncomputable def f4 (k : Int) : List Int := sh4.map (byteZ (IntKind.u64.wrap k))
noncomputable def picL (w h : Int) (L : List (Option Nat)) (D : List Int) : List Int := [80, 78, 66, 1] ++ f4 w ++ f4 h ++ L.flatMap f8 ++ D.flatMap f4

theorem f8_len (o : Option Nat) : (f8 o).length = 8 := by simp [f8, sh8]
theorem f4_len (k : Int) : (f4 k).length = 4 := by simp [f4, sh4]
theorem flat_len {α : Type} (f : α → List Int) (c : Nat) (h : ∀ x, (f x).length = c) : ∀ l : List α, (l.flatMap f).length = c * l.length
  | [] => by simp
  | x :: l => by rw [List.flatMap_cons, List.length_append, h, flat_len f c h l, List.length_cons, Nat.mul_succ]; omega

theorem flat_take {α : Type} (f : α → List Int) (l : List α) {k : Nat} (h : k < l.length) : (l.take (k + 1)).flatMap f = (l.take k).flatMap f ++ f l[k] := by
  rw [List.take_succ_eq_append_getElem h, List.flatMap_append]; simp

theorem enc_loop0 (p : PicT) (b : List Int) (L : List (Option Nat)) (hL : ∀ o, o ∈ L → ∃ w, o = some w) (hn : L.length ≤ 200) (hb : b.length ≤ 1000) :
    image_Encode.l0 (p, b, L, (L.length : Int), 0, ()) = some (.exit 0, p, b ++ L.flatMap f8, L, (L.length : Int), (L.length : Int), ()) := by
  unfold image_Encode.l0
  have hlen : ∀ k, ((L.take k).flatMap f8).length = 8 * (L.take k).length := fun k => flat_len f8 8 f8_len _
  have := iter_count (t := image_Encode.t0) (fun i => ((p, b ++ (L.take i).flatMap f8, L, (L.length : Int), (i : Int), ()) : PicT × List Int × List (Option Nat) × Int × Int × Unit)) (e := .exit 0) (z := (p, b ++ L.flatMap f8, L, (L.length : Int), (L.length : Int), ())) (by simp) L.length 0 rounds (fun i _ hi => ?_) ?_ (rounds_gt (by omega))
  · simpa using this
  · have hi : i < L.length := by omega
    obtain ⟨w, hw⟩ := hL L[i] (List.getElem_mem hi)
    have e1 : image_Bits L[i] = some (w : Int) := by rw [hw]; rfl
    have hl := hlen i
    rw [List.length_take] at hl
    rw [enc_t0, tr_ite, decide_eq_true (by omega), if_pos rfl, tr_opt, lget_nat L hi, Option.bind_some, tr_opt, e1, Option.bind_some]
    rw [putT_run sh8 _ _ _ (by simp only [List.length_append, sh8, List.length_cons, List.length_nil]; omega), tr_ret]
    have e2 : sh8.map (byteZ (w : Int)) = f8 L[i] := by rw [hw]; rfl
    rw [e2, flat_take f8 L hi, W_succ (by omega), List.append_assoc]
    have e3 : (b ++ (L.take i).flatMap f8).length + sh8.length = (b ++ ((L.take i).flatMap f8 ++ f8 L[i])).length := by
      simp only [List.length_append, f8_len, sh8, List.length_cons, List.length_nil]; omega
    rw [e3, List.take_length]
  · rw [Nat.zero_add, enc_t0, tr_ite, decide_eq_false (by omega), if_neg (by simp), tr_ret, List.take_length, List.take_length]

theorem enc_loop2 (b : List Int) (D : List Int) (hn : D.length ≤ 100) (hb : b.length ≤ 10000) :
    image_Encode.l2 (b, D, (D.length : Int), 0, ()) = some (.exit 2, b ++ D.flatMap f4, D, (D.length : Int), (D.length : Int), ()) := by
  unfold image_Encode.l2
  have hlen : ∀ k, ((D.take k).flatMap f4).length = 4 * (D.take k).length := fun k => flat_len f4 4 f4_len _
  have := iter_count (t := image_Encode.t2) (fun i => ((b ++ (D.take i).flatMap f4, D, (D.length : Int), (i : Int), ()) : List Int × List Int × Int × Int × Unit)) (e := .exit 2) (z := (b ++ D.flatMap f4, D, (D.length : Int), (D.length : Int), ())) (by simp) D.length 0 rounds (fun i _ hi => ?_) ?_ (rounds_gt (by omega))
  · simpa using this
  · have hi : i < D.length := by omega
    have hl := hlen i
    rw [List.length_take] at hl
    rw [enc_t2, tr_ite, decide_eq_true (by omega), if_pos rfl, tr_opt, lget_nat D hi, Option.bind_some]
    rw [putT_run sh4 _ _ _ (by simp only [List.length_append, sh4, List.length_cons, List.length_nil]; omega), tr_ret]
    have e2 : sh4.map (byteZ (IntKind.u64.wrap D[i])) = f4 D[i] := rfl
    rw [e2, flat_take f4 D hi, W_succ (by omega), List.append_assoc]
    have e3 : (b ++ (D.take i).flatMap f4).length + sh4.length = (b ++ ((D.take i).flatMap f4 ++ f4 D[i])).length := by
      simp only [List.length_append, f4_len, sh4, List.length_cons, List.length_nil]; omega
    rw [e3, List.take_length]
  · rw [Nat.zero_add, enc_t2, tr_ite, decide_eq_false (by omega), if_neg (by simp), tr_ret, List.take_length, List.take_length]

theorem enc_ok {w h : Int} {L : List (Option Nat)} {D : List Int} (hm : image_may (w, h, L, D) = some true) (hL : ∀ o, o ∈ L → ∃ w, o = some w) (hn : L.length ≤ 200) (hd : D.length ≤ 100) : image_Encode (w, h, L, D) = some (ofBytes (picL w h L D), 0) := by
  unfold image_Encode
  rw [enc_t, tr_opt, hm, Option.bind_some, tr_ite, if_neg (by simp)]
  have h1 := putT_run (α := ByteArray × Int) sh4 [80, 78, 66, 1]
  simp only [List.length_cons, List.length_nil, Nat.zero_add] at h1
  rw [h1 _ _ (by simp [sh4])]
  have e1 : sh4.map (byteZ (IntKind.u64.wrap w)) = f4 w := rfl
  have e2 : sh4.map (byteZ (IntKind.u64.wrap h)) = f4 h := rfl
  have e3 : (1 + 1 + 1 + 1 + sh4.length) = ([80, 78, 66, 1] ++ f4 w : List Int).length := by simp [f4_len, sh4]
  dsimp only
  rw [e1, e3, putT_run sh4 _ _ _ (by simp [f4_len, sh4]), e2]
  have e4 : ([80, 78, 66, 1] ++ f4 w : List Int).length + sh4.length = ([80, 78, 66, 1] ++ f4 w ++ f4 h : List Int).length := by simp [f4_len, sh4]
  rw [e4, List.take_length, tr_opt, enc_loop0 _ _ _ hL hn (by simp [f4_len]), Option.bind_some, tr_ite, if_pos (by rfl), tr_opt]
  dsimp only
  have hlen : (L.flatMap f8).length = 8 * L.length := flat_len f8 8 f8_len _
  rw [List.take_length, enc_loop2 _ _ hd (by simp only [List.length_append, f4_len, List.length_cons, List.length_nil]; omega), Option.bind_some, tr_ite, if_pos (by rfl), tr_ret]
  dsimp only
  rw [List.take_length]
  rfl
end Go.Proofs.Pen

namespace Go.Proofs.Pen
open Go Go.Proofs

theorem ofB_append (a b : List Int) : ofBytes (a ++ b) = ofBytes a ++ ofBytes b := by apply ByteArray.ext; simp [ofBytes]
theorem ofB_size (a : List Int) : (ofBytes a).size = a.length := by simp [ofBytes, ByteArray.size]

theorem u8_wrap (n : Int) : IntKind.u8.wrap n = n % 256 := by
  have e : (2 ^ IntKind.u8.bits : Int) = 256 := by decide
  have es : IntKind.u8.signed = false := rfl
  unfold IntKind.wrap
  simp only [e, es, Bool.false_and, Bool.false_eq_true, if_false]

theorem byteZ_eq (z : Int) (s : Nat) : byteZ z s = z / 2 ^ s % 256 := by
  unfold byteZ
  rw [u8_wrap, fdiv_pos]
  exact Int.le_of_lt (Int.pow_pos (by omega))

theorem f4_eq {n : Int} (h0 : 0 ≤ n) (h1 : n ≤ 9223372036854775807) : f4 n = [n / 16777216 % 256, n / 65536 % 256, n / 256 % 256, n % 256] := by
  unfold f4 sh4
  simp only [List.map_cons, List.map_nil, byteZ_eq]
  rw [U_id h0 (by omega)]
  have p24 : (2 : Int) ^ 24 = 16777216 := by decide
  have p16 : (2 : Int) ^ 16 = 65536 := by decide
  have p8 : (2 : Int) ^ 8 = 256 := by decide
  rw [p24, p16, p8, Int.pow_zero, Int.ediv_one]

theorem four_eq {n : Int} (h0 : 0 ≤ n) (h1 : n ≤ 9223372036854775807) : List.take 4 [IntKind.u8.wrap ((W (Int.tdiv n 16777216)).tmod 256), IntKind.u8.wrap ((W (Int.tdiv n 65536)).tmod 256), IntKind.u8.wrap ((W (Int.tdiv n 256)).tmod 256), IntKind.u8.wrap (Int.tmod n 256)] = f4 n := by
  have t : ∀ k : Int, 0 < k → W (Int.tdiv n k) = n / k ∧ 0 ≤ n / k := fun k hk => by
    rw [Int.tdiv_eq_ediv_of_nonneg h0]
    have h2 : 0 ≤ n / k := Int.ediv_nonneg h0 (by omega)
    have h3 : n / k ≤ n := Int.ediv_le_self _ h0
    exact ⟨W_id (by omega) (by omega), h2⟩
  obtain ⟨a1, a2⟩ := t 16777216 (by omega)
  obtain ⟨b1, b2⟩ := t 65536 (by omega)
  obtain ⟨c1, c2⟩ := t 256 (by omega)
  rw [f4_eq h0 h1, a1, b1, c1, Int.tmod_eq_emod_of_nonneg a2, Int.tmod_eq_emod_of_nonneg b2, Int.tmod_eq_emod_of_nonneg c2, Int.tmod_eq_emod_of_nonneg h0]
  simp only [u8_wrap]
  have e : ∀ m : Int, m % 256 % 256 = m % 256 := fun m => by omega
  simp only [e]
  rfl

theorem f8_eq {w : Nat} (h : w < 18446744073709551616) : f8 (some w) = [(w : Int) / 72057594037927936 % 256, (w : Int) / 281474976710656 % 256, (w : Int) / 1099511627776 % 256, (w : Int) / 4294967296 % 256, (w : Int) / 16777216 % 256, (w : Int) / 65536 % 256, (w : Int) / 256 % 256, (w : Int) % 256] := by
  unfold f8 sh8
  simp only [List.map_cons, List.map_nil, byteZ_eq, Option.getD_some]
  have p56 : (2 : Int) ^ 56 = 72057594037927936 := by decide
  have p48 : (2 : Int) ^ 48 = 281474976710656 := by decide
  have p40 : (2 : Int) ^ 40 = 1099511627776 := by decide
  have p32 : (2 : Int) ^ 32 = 4294967296 := by decide
  have p24 : (2 : Int) ^ 24 = 16777216 := by decide
  have p16 : (2 : Int) ^ 16 = 65536 := by decide
  have p8 : (2 : Int) ^ 8 = 256 := by decide
  rw [p56, p48, p40, p32, p24, p16, p8, Int.pow_zero, Int.ediv_one]

theorem eight_eq {w : Nat} (h : w < 18446744073709551616) : ref29_Eight (w : Int) = some (ofBytes (f8 (some w))) := by
  have h0 : (0 : Int) ≤ w := by omega
  have hd : Int.tdiv (w : Int) 4294967296 = (w : Int) / 4294967296 := Int.tdiv_eq_ediv_of_nonneg h0
  have hm : Int.tmod (w : Int) 4294967296 = (w : Int) % 4294967296 := Int.tmod_eq_emod_of_nonneg h0
  have e1 : W (IntKind.u64.wrap ((w : Int) / 4294967296)) = (w : Int) / 4294967296 := by
    rw [U_id (by omega) (by omega), W_id (by omega) (by omega)]
  have e2 : W ((w : Int) % 4294967296) = (w : Int) % 4294967296 := W_id (by omega) (by omega)
  have k1 := four_eq (n := (w : Int) / 4294967296) (by omega) (by omega)
  have k2 := four_eq (n := (w : Int) % 4294967296) (by omega) (by omega)
  unfold ref29_Eight ref29_Eight.t
  rw [hd, hm, e1, e2, k1, k2, tr_ite, ofB_size, ofB_size, f4_len, f4_len]
  rw [if_neg (by decide), tr_ret, ← ofB_append, f8_eq h, f4_eq (by omega) (by omega), f4_eq (by omega) (by omega)]
  have d1 : (w : Int) / 4294967296 / 16777216 = (w : Int) / 72057594037927936 := by omega
  have d2 : (w : Int) / 4294967296 / 65536 = (w : Int) / 281474976710656 := by omega
  have d3 : (w : Int) / 4294967296 / 256 = (w : Int) / 1099511627776 := by omega
  have d4 : (w : Int) % 4294967296 / 16777216 % 256 = (w : Int) / 16777216 % 256 := by omega
  have d5 : (w : Int) % 4294967296 / 65536 % 256 = (w : Int) / 65536 % 256 := by omega
  have d6 : (w : Int) % 4294967296 / 256 % 256 = (w : Int) / 256 % 256 := by omega
  have d7 : (w : Int) % 4294967296 % 256 = (w : Int) % 256 := by omega
  rw [d1, d2, d3, d4, d5, d6, d7]
  rfl

theorem i64max : IntKind.i64.max = 9223372036854775807 := by decide

/-! ### The reference's bytes -/
theorem ref_loop0 (x : PicT) (s : ByteArray) (hL : ∀ o, o ∈ x.2.2.1 → ∃ w, o = some w ∧ w < 18446744073709551616 ∧ ford (fop .sub (some w) (some w)) (some 0) = some .eq) (hn : x.2.2.1.length ≤ 900) (hs : s.size ≤ 10000) :
    ref29_Encode.l0 (x, s, 0, ()) = some (.exit 0, x, s ++ ofBytes (x.2.2.1.flatMap f8), (x.2.2.1.length : Int), ()) := by
  unfold ref29_Encode.l0
  have hlen : ∀ k, ((x.2.2.1.take k).flatMap f8).length = 8 * (x.2.2.1.take k).length := fun k => flat_len f8 8 f8_len _
  have := iter_count (t := ref29_Encode.t0) (fun i => ((x, s ++ ofBytes ((x.2.2.1.take i).flatMap f8), (i : Int), ()) : PicT × ByteArray × Int × Unit)) (e := .exit 0) (z := (x, s ++ ofBytes (x.2.2.1.flatMap f8), (x.2.2.1.length : Int), ())) (by simp) x.2.2.1.length 0 rounds (fun i _ hi => ?_) ?_ (rounds_gt (by omega))
  · have e0 : s ++ ofBytes [] = s := by apply ByteArray.ext; simp [ofBytes]
    simpa [e0] using this
  · have hi : i < x.2.2.1.length := by omega
    obtain ⟨w, hw, hw1, hw2⟩ := hL x.2.2.1[i] (List.getElem_mem hi)
    have hl := hlen i
    rw [List.length_take] at hl
    unfold ref29_Encode.t0
    dsimp only
    rw [tr_ite, decide_eq_true (by omega), if_pos rfl, tr_opt, lget_nat _ hi, Option.bind_some, tr_opt, hw, bits_law hw1 hw2, Option.bind_some, tr_opt, eight_eq hw1, Option.bind_some, tr_ite]
    rw [decide_eq_false (by rw [i64max, ByteArray.size_append, ofB_size, ofB_size, f8_len]; omega), if_neg (by simp), tr_ret, W_succ (by omega)]
    have e1 : s ++ ofBytes ((x.2.2.1.take i).flatMap f8) ++ ofBytes (f8 (some w)) = s ++ ofBytes ((x.2.2.1.take (i + 1)).flatMap f8) := by
      rw [flat_take f8 _ hi, hw, ofB_append]; apply ByteArray.ext; simp
    rw [e1]
  · rw [Nat.zero_add]
    unfold ref29_Encode.t0
    dsimp only
    rw [tr_ite, decide_eq_false (by omega), if_neg (by simp), tr_ret, List.take_length]

theorem ref_loop2 (x : PicT) (s : ByteArray) (hD : ∀ k, k ∈ x.2.2.2 → 0 ≤ k ∧ k ≤ 2147483647) (hn : x.2.2.2.length ≤ 900) (hs : s.size ≤ 10000) :
    ref29_Encode.l2 (x, s, 0, ()) = some (.exit 2, x, s ++ ofBytes (x.2.2.2.flatMap f4), (x.2.2.2.length : Int), ()) := by
  unfold ref29_Encode.l2
  have hlen : ∀ k, ((x.2.2.2.take k).flatMap f4).length = 4 * (x.2.2.2.take k).length := fun k => flat_len f4 4 f4_len _
  have := iter_count (t := ref29_Encode.t2) (fun i => ((x, s ++ ofBytes ((x.2.2.2.take i).flatMap f4), (i : Int), ()) : PicT × ByteArray × Int × Unit)) (e := .exit 2) (z := (x, s ++ ofBytes (x.2.2.2.flatMap f4), (x.2.2.2.length : Int), ())) (by simp) x.2.2.2.length 0 rounds (fun i _ hi => ?_) ?_ (rounds_gt (by omega))
  · have e0 : s ++ ofBytes [] = s := by apply ByteArray.ext; simp [ofBytes]
    simpa [e0] using this
  · have hi : i < x.2.2.2.length := by omega
    obtain ⟨k1, k2⟩ := hD x.2.2.2[i] (List.getElem_mem hi)
    have hl := hlen i
    rw [List.length_take] at hl
    unfold ref29_Encode.t2
    dsimp only
    rw [tr_ite, decide_eq_true (by omega), if_pos rfl, tr_opt, lget_nat _ hi, Option.bind_some, four_eq k1 (by omega), tr_ite]
    rw [decide_eq_false (by rw [i64max, ByteArray.size_append, ofB_size, ofB_size, f4_len]; omega), if_neg (by simp), tr_ret, W_succ (by omega)]
    have e1 : s ++ ofBytes ((x.2.2.2.take i).flatMap f4) ++ ofBytes (f4 x.2.2.2[i]) = s ++ ofBytes ((x.2.2.2.take (i + 1)).flatMap f4) := by
      rw [flat_take f4 _ hi, ofB_append]; apply ByteArray.ext; simp
    rw [e1]
  · rw [Nat.zero_add]
    unfold ref29_Encode.t2
    dsimp only
    rw [tr_ite, decide_eq_false (by omega), if_neg (by simp), tr_ret, List.take_length]

theorem ref_ok {w h : Int} {L : List (Option Nat)} {D : List Int} (hw : 1 ≤ w ∧ w ≤ 8192) (hh : 1 ≤ h ∧ h ≤ 8192) (hL : ∀ o, o ∈ L → ∃ w, o = some w ∧ w < 18446744073709551616 ∧ ford (fop .sub (some w) (some w)) (some 0) = some .eq)
    (hD : ∀ k, k ∈ D → 0 ≤ k ∧ k ≤ 2147483647) (hn : L.length ≤ 900) (hd : D.length ≤ 900) : ref29_Encode (w, h, L, D) = some (ofBytes (picL w h L D)) := by
  unfold ref29_Encode ref29_Encode.t
  dsimp only
  have h0 : (ByteArray.mk #[80, 78, 66, 1]) = ofBytes [80, 78, 66, 1] := by apply ByteArray.ext; simp [ofBytes]
  rw [four_eq (n := w) (by omega) (by omega), four_eq (n := h) (by omega) (by omega), h0]
  simp only [← ofB_append]
  rw [tr_ite, decide_eq_false (by rw [i64max, ofB_size, ofB_size, f4_len]; simp), if_neg (by simp), tr_ite, decide_eq_false (by rw [i64max, ofB_size, ofB_size, List.length_append, f4_len, f4_len]; simp), if_neg (by simp), tr_opt]
  have hlen : (L.flatMap f8).length = 8 * L.length := flat_len f8 8 f8_len _
  rw [ref_loop0 _ _ hL hn (by rw [ofB_size]; simp [f4_len]), Option.bind_some, tr_ite, if_pos (by rfl), tr_opt]
  dsimp only
  rw [ref_loop2 _ _ hD hd (by rw [ByteArray.size_append, ofB_size, ofB_size]; simp only [List.length_append, f4_len, List.length_cons, List.length_nil, hlen]; omega), Option.bind_some, tr_ite, if_pos (by rfl), tr_ret]
  dsimp only
  rw [← ofB_append, ← ofB_append]
  rfl
end Go.Proofs.Pen

namespace Go.Proofs.Pen
open Go Go.Proofs

/-! ### Searches -/
theorem least {good : Nat → Bool} : ∀ {n : Nat}, (∃ i, i < n ∧ good i = false) → ∃ k, k < n ∧ good k = false ∧ ∀ j, j < k → good j = true
  | 0, h => by obtain ⟨i, h, _⟩ := h; omega
  | n + 1, h => by
    by_cases hn : ∃ i, i < n ∧ good i = false
    · obtain ⟨k, h1, h2, h3⟩ := least hn
      exact ⟨k, by omega, h2, h3⟩
    · obtain ⟨i, h1, h2⟩ := h
      refine ⟨i, h1, h2, fun j hj => ?_⟩
      cases hg : good j with
      | true => rfl
      | false => exact absurd ⟨j, by omega, hg⟩ hn

theorem iter_search {σ : Type} {t : σ → T (Ex × σ)} (st : Nat → σ) (good : Nat → Bool) (n m : Nat) {e e' : Ex} {z : σ} (z' : Nat → σ) (he : e ≠ .normal) (he' : e' ≠ .normal) (h1 : ∀ i, i < n → good i = true → (t (st i)).run = some (.normal, st (i + 1)))
    (h2 : ∀ i, i < n → good i = false → (t (st i)).run = some (e', z' i)) (h3 : (t (st n)).run = some (e, z)) (hn : n < m) :
    ((∀ i, i < n → good i = true) → (iterT t m (st 0)).run = some (e, z)) ∧ ((∃ i, i < n ∧ good i = false) → ∃ k, k < n ∧ (iterT t m (st 0)).run = some (e', z' k)) := by
  refine ⟨fun h => ?_, fun h => ?_⟩
  · exact iter_count st he n 0 m (fun i _ hi => h1 i (by omega) (h i (by omega))) (by rw [Nat.zero_add]; exact h3) hn
  · obtain ⟨k, k1, k2, k3⟩ := least h
    exact ⟨k, k1, iter_count st he' k 0 m (fun i _ hi => h1 i (by omega) (k3 i (by omega))) (by rw [Nat.zero_add]; exact h2 k k1 k2) (by omega)⟩

/-! ### Numbers -/
noncomputable def vnum (x : Option Nat) : Bool := (ford x (some 18442240474082181119) == some Ordering.gt || ford x (some 18442240474082181119) == some Ordering.eq) && (ford x (some 9218868437227405311) == some Ordering.lt || ford x (some 9218868437227405311) == some Ordering.eq)
noncomputable def rnum (x : Option Nat) : Bool := ford (fop BinOp.sub x x) (some 0) == some Ordering.eq

theorem can_max : Can 9007199254740991 971 := ⟨by omega, by omega, by omega, .inl (by omega)⟩
theorem rung_max : rungOf 9007199254740991 971 = 9218868437227405311 := by decide
theorem read_max (s : Bool) : FF.read (FF.word s 9218868437227405311) = .number s 9007199254740991 971 := by
  have := read_can can_max (by rw [rung_max]; omega) s
  rw [rung_max] at this; exact this

theorem word_neg_max : FF.word true 9218868437227405311 = 18442240474082181119 := by
  show FF.signWeight + _ = _
  rw [ff_sw]

theorem vnum_eq {w : Nat} (h : w < 18446744073709551616) : vnum (some w) = rnum (some w) := by
  obtain ⟨s, r, rfl, hr⟩ := word_split h
  have hhi : FF.read 9218868437227405311 = .number false 9007199254740991 971 := read_max false
  have hlo : FF.read 18442240474082181119 = .number true 9007199254740991 971 := by rw [← word_neg_max]; exact read_max true
  by_cases hfin : r < 9218868437227405312
  · have h1 : rnum (some (FF.word s r)) = true := by unfold rnum; rw [is_number s hfin]; rfl
    rw [h1]
    obtain ⟨m, p, e, hm, hp, hc⟩ := read_fin s hfin
    have hb : m ≤ 9007199254740991 ∧ p ≤ 971 := by
      rcases Nat.eq_zero_or_pos r with h0 | h0
      · have := hm.2 h0
        subst this h0
        rw [read_zero] at e
        injection e with _ _ e3
        omega
      · obtain ⟨hcan, er⟩ := hc h0
        have := hcan.lt
        refine ⟨by omega, ?_⟩
        apply Classical.byContradiction; intro hn
        have hq : (p + 1074).toNat ≥ 2046 := by omega
        have hnrm : 4503599627370496 ≤ m := by rcases hcan.nrm with h1 | h1; exact h1; omega
        have : (p + 1074).toNat * 4503599627370496 ≥ 2046 * 4503599627370496 := Nat.mul_le_mul_right _ hq
        unfold rungOf at er
        omega
    obtain ⟨hb1, hb2⟩ := hb
    have e1 : min p 971 = p := by omega
    have e2 : (p - p).toNat = 0 := by omega
    have hk : 9007199254740991 * 1 ≤ 9007199254740991 * 2 ^ (971 - p).toNat := Nat.mul_le_mul_left _ (Nat.two_pow_pos _)
    generalize hz : 9007199254740991 * 2 ^ (971 - p).toNat = z at hk
    have o1 : ford (some (FF.word s r)) (some 9218868437227405311) = some (compare (Ieee.signed s m 0) ((z : Nat) : Int)) := by
      show FF.order _ _ = _
      unfold Ieee.Format.order
      rw [e, hhi]
      simp only [Ieee.Datum.order, e1, e2]
      have : Ieee.signed false 9007199254740991 (971 - p).toNat = ((z : Nat) : Int) := by
        simp only [Ieee.signed, Nat.shiftLeft_eq, hz, Bool.false_eq_true, if_false]
      rw [this]
    have o2 : ford (some (FF.word s r)) (some 18442240474082181119) = some (compare (Ieee.signed s m 0) (-((z : Nat) : Int))) := by
      show FF.order _ _ = _
      unfold Ieee.Format.order
      rw [e, hlo]
      simp only [Ieee.Datum.order, e1, e2]
      have : Ieee.signed true 9007199254740991 (971 - p).toNat = -((z : Nat) : Int) := by
        simp only [Ieee.signed, Nat.shiftLeft_eq, hz, if_true]
      rw [this]
    have hs1 : Ieee.signed s m 0 ≤ (z : Int) := by cases s <;> simp [Ieee.signed] <;> omega
    have hs2 : -((z : Nat) : Int) ≤ Ieee.signed s m 0 := by cases s <;> simp [Ieee.signed] <;> omega
    have c1 : (some (compare (Ieee.signed s m 0) ((z : Nat) : Int)) == some Ordering.lt || some (compare (Ieee.signed s m 0) ((z : Nat) : Int)) == some Ordering.eq) = true := by
      have hne : compare (Ieee.signed s m 0) ((z : Nat) : Int) ≠ .gt := fun h => by have := Int.compare_eq_gt.1 h; omega
      cases hcmp : compare (Ieee.signed s m 0) ((z : Nat) : Int) with
      | lt => rfl
      | eq => rfl
      | gt => exact absurd hcmp hne
    have c2 : (some (compare (Ieee.signed s m 0) (-((z : Nat) : Int))) == some Ordering.gt || some (compare (Ieee.signed s m 0) (-((z : Nat) : Int))) == some Ordering.eq) = true := by
      have hne : compare (Ieee.signed s m 0) (-((z : Nat) : Int)) ≠ .lt := fun h => by have := Int.compare_eq_lt.1 h; omega
      cases hcmp : compare (Ieee.signed s m 0) (-((z : Nat) : Int)) with
      | gt => rfl
      | eq => rfl
      | lt => exact absurd hcmp hne
    unfold vnum
    rw [o1, o2, c1, c2]; rfl
  · have h1 : rnum (some (FF.word s r)) = false := by unfold rnum; rw [not_number s (by omega) hr]; rfl
    rw [h1]
    obtain ⟨e1, e2⟩ := word_parts s hr
    have : (FF.read (FF.word s r) = .infinity s) ∨ ∃ t, FF.read (FF.word s r) = .nan s t := by
      unfold Ieee.Format.read
      simp only [e1, e2, ff_binade, ff_inf, ff_lp]
      rw [if_neg (by omega), if_neg (by omega)]
      by_cases h : r = 9218868437227405312
      · rw [if_pos h]; exact .inl rfl
      · rw [if_neg h]; exact .inr ⟨_, rfl⟩
    have o1 : ford (some (FF.word s r)) (some 9218868437227405311) = (FF.read (FF.word s r)).order (.number false 9007199254740991 971) := by rw [← hhi]; rfl
    have o2 : ford (some (FF.word s r)) (some 18442240474082181119) = (FF.read (FF.word s r)).order (.number true 9007199254740991 971) := by rw [← hlo]; rfl
    unfold vnum
    rw [o1, o2]
    rcases this with e | ⟨t, e⟩
    · rw [e]; cases s <;> rfl
    · rw [e]; cases s <;> rfl

/-! ### Which pictures may be -/
theorem conF_law (L : List (Option Nat)) (hn : L.length ≤ 1000) : ConF (L, ()) = some (!L.all vnum) := by
  have hs := iter_search (t := IdxF.t0) (fun i => ((L, (), 0, (L.length : Int), (i : Int), ()) : List (Option Nat) × Unit × Int × Int × Int × Unit)) (fun i => vnum (L.getD i none)) L.length rounds (e := .exit 0) (e' := .ret) (z := (L, (), 0, (L.length : Int), (L.length : Int), ()))
    (fun i => (L, (), (i : Int), (L.length : Int), (i : Int), ())) (by simp) (by simp) (fun i hi hg => ?_) (fun i hi hg => ?_) ?_ (rounds_gt (by omega))
  · have hall : L.all vnum = true ↔ ∀ i, i < L.length → vnum (L.getD i none) = true := by
      rw [List.all_eq_true]
      constructor
      · intro h i hi
        rw [List.getD_eq_getElem?_getD, List.getElem?_eq_getElem hi]
        exact h _ (List.getElem_mem hi)
      · intro h o ho
        obtain ⟨i, hi, rfl⟩ := List.getElem_of_mem ho
        have := h i hi
        rwa [List.getD_eq_getElem?_getD, List.getElem?_eq_getElem hi] at this
    unfold ConF ConF.t
    rw [tr_opt]
    by_cases ha : L.all vnum = true
    · have h1 : IdxF.l0 (L, (), 0, (L.length : Int), 0, ()) = _ := hs.1 (hall.1 ha)
      have : IdxF (L, ()) = some (-1) := by
        unfold IdxF IdxF.t
        rw [tr_opt]
        dsimp only
        rw [h1, Option.bind_some, tr_ite, if_pos (by rfl), tr_ret]
      rw [this, Option.bind_some, tr_ret, ha]; rfl
    · obtain ⟨k, hk, h1⟩ := hs.2 (by
        apply Classical.byContradiction; intro hne
        refine ha (hall.2 fun i hi => ?_)
        cases hg : vnum (L.getD i none) with
        | true => rfl
        | false => exact absurd ⟨i, hi, hg⟩ hne)
      have h1 : IdxF.l0 (L, (), 0, (L.length : Int), 0, ()) = _ := h1
      have : IdxF (L, ()) = some (k : Int) := by
        unfold IdxF IdxF.t
        rw [tr_opt]
        dsimp only
        rw [h1, Option.bind_some, tr_ite, if_neg (by simp [exEq]), tr_ite, if_pos (by rfl), tr_ret]
      rw [this, Option.bind_some, tr_ret]
      have hf : L.all vnum = false := by simpa using ha
      rw [hf, decide_eq_true (by omega)]; rfl
  · have hg : vnum L[i] = true := by rwa [List.getD_eq_getElem?_getD, List.getElem?_eq_getElem hi] at hg
    unfold IdxF.t0
    dsimp only
    rw [tr_ite, decide_eq_true (by omega), if_pos rfl, tr_opt, lget_nat L hi, Option.bind_some, tr_ite]
    have : (!vnum L[i]) = false := by rw [hg]; rfl
    unfold vnum at this
    rw [this, if_neg (by simp), tr_ret, W_succ (by omega)]
  · have hg : vnum L[i] = false := by rwa [List.getD_eq_getElem?_getD, List.getElem?_eq_getElem hi] at hg
    unfold IdxF.t0
    dsimp only
    rw [tr_ite, decide_eq_true (by omega), if_pos rfl, tr_opt, lget_nat L hi, Option.bind_some, tr_ite]
    have : (!vnum L[i]) = true := by rw [hg]; rfl
    unfold vnum at this
    rw [this, if_pos rfl, tr_ret]
  · unfold IdxF.t0
    dsimp only
    rw [tr_ite, decide_eq_false (by omega), if_neg (by simp), tr_ret]

def inD (k : Int) : Bool := !(decide (k < 0) || decide (k > 2147483647))

theorem conI_law (L : List Int) (hn : L.length ≤ 1000) : ConI (L, ()) = some (!L.all inD) := by
  have hs := iter_search (t := IdxI.t0) (fun i => ((L, (), 0, (L.length : Int), (i : Int), ()) : List Int × Unit × Int × Int × Int × Unit)) (fun i => inD (L.getD i 0)) L.length rounds (e := .exit 0) (e' := .ret) (z := (L, (), 0, (L.length : Int), (L.length : Int), ()))
    (fun i => (L, (), (i : Int), (L.length : Int), (i : Int), ())) (by simp) (by simp) (fun i hi hg => ?_) (fun i hi hg => ?_) ?_ (rounds_gt (by omega))
  · have hall : L.all inD = true ↔ ∀ i, i < L.length → inD (L.getD i 0) = true := by
      rw [List.all_eq_true]
      constructor
      · intro h i hi
        rw [List.getD_eq_getElem?_getD, List.getElem?_eq_getElem hi]
        exact h _ (List.getElem_mem hi)
      · intro h o ho
        obtain ⟨i, hi, rfl⟩ := List.getElem_of_mem ho
        have := h i hi
        rwa [List.getD_eq_getElem?_getD, List.getElem?_eq_getElem hi] at this
    unfold ConI ConI.t
    rw [tr_opt]
    by_cases ha : L.all inD = true
    · have h1 : IdxI.l0 (L, (), 0, (L.length : Int), 0, ()) = _ := hs.1 (hall.1 ha)
      have : IdxI (L, ()) = some (-1) := by
        unfold IdxI IdxI.t
        rw [tr_opt]
        dsimp only
        rw [h1, Option.bind_some, tr_ite, if_pos (by rfl), tr_ret]
      rw [this, Option.bind_some, tr_ret, ha]; rfl
    · obtain ⟨k, hk, h1⟩ := hs.2 (by
        apply Classical.byContradiction; intro hne
        refine ha (hall.2 fun i hi => ?_)
        cases hg : inD (L.getD i 0) with
        | true => rfl
        | false => exact absurd ⟨i, hi, hg⟩ hne)
      have h1 : IdxI.l0 (L, (), 0, (L.length : Int), 0, ()) = _ := h1
      have : IdxI (L, ()) = some (k : Int) := by
        unfold IdxI IdxI.t
        rw [tr_opt]
        dsimp only
        rw [h1, Option.bind_some, tr_ite, if_neg (by simp [exEq]), tr_ite, if_pos (by rfl), tr_ret]
      rw [this, Option.bind_some, tr_ret]
      have hf : L.all inD = false := by simpa using ha
      rw [hf, decide_eq_true (by omega)]; rfl
  · have hg : inD L[i] = true := by rwa [List.getD_eq_getElem?_getD, List.getElem?_eq_getElem hi] at hg
    unfold IdxI.t0
    dsimp only
    rw [tr_ite, decide_eq_true (by omega), if_pos rfl, tr_opt, lget_nat L hi, Option.bind_some, tr_ite]
    have : (decide (L[i] < 0) || decide (L[i] > 2147483647)) = false := by unfold inD at hg; simpa using hg
    rw [this, if_neg (by simp), tr_ret, W_succ (by omega)]
  · have hg : inD L[i] = false := by rwa [List.getD_eq_getElem?_getD, List.getElem?_eq_getElem hi] at hg
    unfold IdxI.t0
    dsimp only
    rw [tr_ite, decide_eq_true (by omega), if_pos rfl, tr_opt, lget_nat L hi, Option.bind_some, tr_ite]
    have : (decide (L[i] < 0) || decide (L[i] > 2147483647)) = true := by unfold inD at hg; exact (Bool.not_eq_false' _).mp hg
    rw [this, if_pos rfl, tr_ret]
  · unfold IdxI.t0
    dsimp only
    rw [tr_ite, decide_eq_false (by omega), if_neg (by simp), tr_ret]
end Go.Proofs.Pen

namespace Go.Proofs.Pen
open Go Go.Proofs

def Sz (w h : Int) (L : List (Option Nat)) (D : List Int) : Prop := (w ≥ 1 ∧ h ≥ 1 ∧ w ≤ 8192 ∧ h ≤ 8192 ∧ W (w * h) ≤ 65536) ∧ (L.length : Int) = 3 * (w * h) ∧ (D.length : Int) = w * h

instance (w h : Int) (L : List (Option Nat)) (D : List Int) : Decidable (Sz w h L D) := by unfold Sz; infer_instance

noncomputable def mayB (w h : Int) (L : List (Option Nat)) (D : List Int) : Bool := decide (Sz w h L D) && L.all vnum && D.all inD

theorem img_may (w h : Int) (L : List (Option Nat)) (D : List Int) (hL : L.length ≤ 1000) (hD : D.length ≤ 1000) : image_may (w, h, L, D) = some (mayB w h L D) := by
  unfold image_may image_may.t
  dsimp only
  rw [tr_opt]
  by_cases hc : w ≥ 1 ∧ h ≥ 1 ∧ w ≤ 8192 ∧ h ≤ 8192 ∧ W (w * h) ≤ 65536
  · have hc' := hc
    obtain ⟨a1, a2, a3, a4, a5⟩ := hc
    have hp : 1 * 1 ≤ w * h := Int.mul_le_mul a1 a2 (by omega) (by omega)
    have hq : w * h ≤ 8192 * 8192 := Int.mul_le_mul a3 a4 (by omega) (by omega)
    rw [(size_ok a1 a2 a3 a4 a5).1, Option.bind_some, tr_ite]
    have e3 : W (3 * (w * h)) = 3 * (w * h) := W_id (by omega) (by omega)
    rw [e3]
    have e0 : (w * h == 0) = false := by
      have : ¬ w * h = 0 := by omega
      simpa using this
    rw [e0]
    by_cases hs : (L.length : Int) = 3 * (w * h) ∧ (D.length : Int) = w * h
    · obtain ⟨b1, b2⟩ := hs
      have hSz : Sz w h L D := ⟨hc', b1, b2⟩
      rw [b1, b2, if_neg (by simp), tr_opt, conF_law L hL, Option.bind_some, tr_ite]
      have hm : mayB w h L D = (L.all vnum && D.all inD) := by unfold mayB; rw [decide_eq_true hSz]; rfl
      rw [hm]
      cases hv : L.all vnum with
      | true =>
        rw [if_pos (by rfl), tr_opt, conI_law D hD, Option.bind_some, tr_ret]
        simp
      | false => rw [if_neg (by simp), tr_ret]; rfl
    · have hSz : ¬ Sz w h L D := fun h => hs h.2
      have hm : mayB w h L D = false := by unfold mayB; rw [decide_eq_false hSz]; rfl
      rw [hm, if_pos, tr_ret]
      simp only [Bool.false_or, Bool.or_eq_true, bne_iff_ne]
      by_cases b1 : (L.length : Int) = 3 * (w * h)
      · exact .inr fun b2 => hs ⟨b1, b2⟩
      · exact .inl b1
  · have hSz : ¬ Sz w h L D := fun h => hc h.1
    have hm : mayB w h L D = false := by unfold mayB; rw [decide_eq_false hSz]; rfl
    rw [(size_no hc).1, Option.bind_some, tr_ite, if_pos (by rfl), tr_ret, hm]

theorem ref_may (w h : Int) (L : List (Option Nat)) (D : List Int) (hL : L.length ≤ 1000) (hD : D.length ≤ 1000) (hf : ∀ o, o ∈ L → ∃ w, o = some w ∧ w < 18446744073709551616) : ref29_May (w, h, L, D) = some (mayB w h L D) := by
  unfold ref29_May ref29_May.t
  dsimp only
  rw [tr_ite]
  by_cases hSz : Sz w h L D
  · obtain ⟨⟨a1, a2, a3, a4, a5⟩, b1, b2⟩ := hSz
    have hSz : Sz w h L D := ⟨⟨a1, a2, a3, a4, a5⟩, b1, b2⟩
    have hp : 1 * 1 ≤ w * h := Int.mul_le_mul a1 a2 (by omega) (by omega)
    have hq : w * h ≤ 8192 * 8192 := Int.mul_le_mul a3 a4 (by omega) (by omega)
    have hW : W (w * h) = w * h := W_id (by omega) (by omega)
    have hW3 : W (W (3 * w) * h) = 3 * (w * h) := by
      rw [W_id (n := 3 * w) (by omega) (by omega), Int.mul_assoc]
      exact W_id (by omega) (by omega)
    have hm : mayB w h L D = (L.all vnum && D.all inD) := by unfold mayB; rw [decide_eq_true hSz]; rfl
    rw [if_neg, hm]
    · -- the first loop
      have s1 := iter_search (t := ref29_May.t0) (fun i => (((w, h, L, D), false, (i : Int), ()) : PicT × Bool × Int × Unit)) (fun i => rnum (L.getD i none)) L.length rounds (e := .exit 0) (e' := .ret) (z := ((w, h, L, D), false, (L.length : Int), ()))
        (fun i => ((w, h, L, D), false, (i : Int), ())) (by simp) (by simp) (fun i hi hg => ?_) (fun i hi hg => ?_) ?_ (rounds_gt (by omega))
      · have s2 := iter_search (t := ref29_May.t2) (fun i => (((w, h, L, D), false, (i : Int), ()) : PicT × Bool × Int × Unit)) (fun i => inD (D.getD i 0)) D.length rounds (e := .exit 2) (e' := .ret) (z := ((w, h, L, D), false, (D.length : Int), ()))
          (fun i => ((w, h, L, D), false, (i : Int), ())) (by simp) (by simp) (fun i hi hg => ?_) (fun i hi hg => ?_) ?_ (rounds_gt (by omega))
        · have hall : L.all vnum = true ↔ ∀ i, i < L.length → rnum (L.getD i none) = true := by
            rw [List.all_eq_true]
            constructor
            · intro h i hi
              rw [List.getD_eq_getElem?_getD, List.getElem?_eq_getElem hi]
              obtain ⟨z, e, hz⟩ := hf _ (List.getElem_mem hi)
              have := h _ (List.getElem_mem hi)
              simp only [Option.getD_some]
              rw [e] at this ⊢
              rwa [← vnum_eq hz]
            · intro h o ho
              obtain ⟨i, hi, rfl⟩ := List.getElem_of_mem ho
              obtain ⟨z, e, hz⟩ := hf _ (List.getElem_mem hi)
              have := h i hi
              rw [List.getD_eq_getElem?_getD, List.getElem?_eq_getElem hi, Option.getD_some] at this
              rw [e] at this ⊢
              rwa [vnum_eq hz]
          have hall2 : D.all inD = true ↔ ∀ i, i < D.length → inD (D.getD i 0) = true := by
            rw [List.all_eq_true]
            constructor
            · intro h i hi
              rw [List.getD_eq_getElem?_getD, List.getElem?_eq_getElem hi]
              exact h _ (List.getElem_mem hi)
            · intro h o ho
              obtain ⟨i, hi, rfl⟩ := List.getElem_of_mem ho
              have := h i hi
              rwa [List.getD_eq_getElem?_getD, List.getElem?_eq_getElem hi] at this
          rw [tr_opt]
          by_cases ha : L.all vnum = true
          · have h1 : ref29_May.l0 ((w, h, L, D), false, 0, ()) = _ := s1.1 (hall.1 ha)
            rw [h1, Option.bind_some, tr_ite, if_pos (by rfl), tr_opt]
            dsimp only
            by_cases hb : D.all inD = true
            · have h2 : ref29_May.l2 ((w, h, L, D), false, 0, ()) = _ := s2.1 (hall2.1 hb)
              rw [h2, Option.bind_some, tr_ite, if_pos (by rfl), tr_ret, ha, hb]; rfl
            · obtain ⟨k, hk, h2⟩ := s2.2 (by
                apply Classical.byContradiction; intro hne
                refine hb (hall2.2 fun i hi => ?_)
                cases hg : inD (D.getD i 0) with
                | true => rfl
                | false => exact absurd ⟨i, hi, hg⟩ hne)
              have h2 : ref29_May.l2 ((w, h, L, D), false, 0, ()) = _ := h2
              have hb' : D.all inD = false := by simpa using hb
              rw [h2, Option.bind_some, tr_ite, if_neg (by simp [exEq]), tr_ite, if_pos (by rfl), tr_ret, ha, hb']; rfl
          · obtain ⟨k, hk, h1⟩ := s1.2 (by
              apply Classical.byContradiction; intro hne
              refine ha (hall.2 fun i hi => ?_)
              cases hg : rnum (L.getD i none) with
              | true => rfl
              | false => exact absurd ⟨i, hi, hg⟩ hne)
            have h1 : ref29_May.l0 ((w, h, L, D), false, 0, ()) = _ := h1
            have ha' : L.all vnum = false := by simpa using ha
            rw [h1, Option.bind_some, tr_ite, if_neg (by simp [exEq]), tr_ite, if_pos (by rfl), tr_ret, ha']; rfl
        · have hg : inD D[i] = true := by rwa [List.getD_eq_getElem?_getD, List.getElem?_eq_getElem hi] at hg
          have h2 : (decide (D[i] < 0) || decide (D[i] > 2147483647)) = false := by unfold inD at hg; simpa using hg
          simp only [Bool.or_eq_false_iff] at h2
          unfold ref29_May.t2
          dsimp only
          rw [tr_ite, decide_eq_true (by omega), if_pos rfl, tr_opt, lget_nat D hi, Option.bind_some, tr_ite, h2.1, if_neg (by simp), tr_opt, Option.bind_some, tr_ite, h2.2, if_neg (by simp), tr_ret, W_succ (by omega)]
        · have hg : inD D[i] = false := by rwa [List.getD_eq_getElem?_getD, List.getElem?_eq_getElem hi] at hg
          have h2 : (decide (D[i] < 0) || decide (D[i] > 2147483647)) = true := by unfold inD at hg; exact (Bool.not_eq_false' _).mp hg
          unfold ref29_May.t2
          dsimp only
          rw [tr_ite, decide_eq_true (by omega), if_pos rfl, tr_opt, lget_nat D hi, Option.bind_some, tr_ite]
          by_cases h3 : decide (D[i] < 0) = true
          · rw [if_pos h3, tr_ret]
          · have h4 : decide (D[i] > 2147483647) = true := by
              rcases (Bool.or_eq_true _ _).mp h2 with h | h
              · exact absurd h h3
              · exact h
            rw [if_neg h3, tr_opt, Option.bind_some, tr_ite, h4, if_pos rfl, tr_ret]
        · unfold ref29_May.t2
          dsimp only
          rw [tr_ite, decide_eq_false (by omega), if_neg (by simp), tr_ret]
      · have hg : rnum L[i] = true := by rwa [List.getD_eq_getElem?_getD, List.getElem?_eq_getElem hi] at hg
        unfold ref29_May.t0
        dsimp only
        rw [tr_ite, decide_eq_true (by omega), if_pos rfl, tr_opt, lget_nat L hi, Option.bind_some, tr_ite]
        unfold rnum at hg
        rw [hg, if_neg (by simp), tr_ret, W_succ (by omega)]
      · have hg : rnum L[i] = false := by rwa [List.getD_eq_getElem?_getD, List.getElem?_eq_getElem hi] at hg
        unfold ref29_May.t0
        dsimp only
        rw [tr_ite, decide_eq_true (by omega), if_pos rfl, tr_opt, lget_nat L hi, Option.bind_some, tr_ite]
        unfold rnum at hg
        rw [hg, if_pos (by rfl), tr_ret]
      · unfold ref29_May.t0
        dsimp only
        rw [tr_ite, decide_eq_false (by omega), if_neg (by simp), tr_ret]
    · rw [hW, hW3, b1, b2]
      simp
      omega
  · have hm : mayB w h L D = false := by unfold mayB; rw [decide_eq_false hSz]; rfl
    rw [if_pos, tr_ret, hm]
    apply Classical.byContradiction; intro hn
    simp only [Bool.not_eq_true, Bool.or_eq_false_iff, decide_eq_false_iff_not, bne_eq_false_iff_eq] at hn
    obtain ⟨⟨⟨⟨⟨⟨a1, a2⟩, a3⟩, a4⟩, a5⟩, b1⟩, b2⟩ := hn
    have hp : 1 * 1 ≤ w * h := Int.mul_le_mul (by omega) (by omega) (by omega) (by omega)
    have hq : w * h ≤ 8192 * 8192 := Int.mul_le_mul (by omega) (by omega) (by omega) (by omega)
    have hW : W (w * h) = w * h := W_id (by omega) (by omega)
    have hW3 : W (W (3 * w) * h) = 3 * (w * h) := by
      rw [W_id (n := 3 * w) (by omega) (by omega), Int.mul_assoc]
      exact W_id (by omega) (by omega)
    exact hSz ⟨⟨by omega, by omega, by omega, by omega, by omega⟩, by omega, by omega⟩
end Go.Proofs.Pen

namespace Go.Proofs.Pen
open Go Go.Proofs

/-! ### Numbers off bytes -/
def horner (xs : List Int) : Int := xs.foldl (fun n c => n * 256 + c) 0
def Bytes (xs : List Int) : Prop := ∀ c, c ∈ xs → 0 ≤ c ∧ c < 256

theorem horner_snoc (xs : List Int) (c : Int) : horner (xs ++ [c]) = horner xs * 256 + c := by unfold horner; rw [List.foldl_append]; rfl

theorem horner_bd : ∀ (k : Nat) (xs : List Int), Bytes xs → xs.length = k → 0 ≤ horner xs ∧ horner xs < 256 ^ k
  | 0, xs, _, h => by
    have := List.length_eq_zero_iff.1 h
    subst this
    simp [horner]
  | k + 1, xs, hb, h => by
    have hne : xs ≠ [] := fun e => by rw [e] at h; simp at h
    have e := List.dropLast_concat_getLast hne
    have h1 := horner_bd k xs.dropLast (fun c hc => hb c (List.dropLast_subset xs hc)) (by rw [List.length_dropLast]; omega)
    have h2 := hb _ (List.getLast_mem hne)
    rw [← e, horner_snoc, Int.pow_succ]
    generalize (256 : Int) ^ k = z at *
    constructor <;> omega

theorem or_byte {n c : Int} (h0 : 0 ≤ n) (h1 : n < 72057594037927936) (h2 : 0 ≤ c) (h3 : c < 256) :
    IntKind.u64.wrap (↑(BitVec.ofInt IntKind.u64.bits (IntKind.u64.wrap (n * 2 ^ min (Int.toNat 8) IntKind.u64.bits)) ||| BitVec.ofInt IntKind.u64.bits (IntKind.u64.wrap c)).toNat : Int) = n * 256 + c := by
  have e1 : (2 : Int) ^ min (Int.toNat 8) IntKind.u64.bits = 256 := by decide
  rw [e1, U_id (n := n * 256) (by omega) (by omega), U_id (n := c) h2 (by omega)]
  obtain ⟨a, rfl⟩ := Int.eq_ofNat_of_zero_le h0
  obtain ⟨b, rfl⟩ := Int.eq_ofNat_of_zero_le h2
  have hb : IntKind.u64.bits = 64 := rfl
  have f1 : (BitVec.ofInt 64 ((a : Int) * 256)).toNat = a * 256 := by
    rw [BitVec.toNat_ofInt]; omega
  have f2 : (BitVec.ofInt 64 (b : Int)).toNat = b := by
    rw [BitVec.toNat_ofInt]; omega
  have f3 : (BitVec.ofInt IntKind.u64.bits ((a : Int) * 256) ||| BitVec.ofInt IntKind.u64.bits (b : Int)).toNat = a * 256 + b := by
    show (BitVec.ofInt 64 ((a : Int) * 256) ||| BitVec.ofInt 64 (b : Int)).toNat = _
    rw [BitVec.toNat_or, f1, f2]
    have := Nat.two_pow_add_eq_or_of_lt (i := 8) (b := b) (by omega) a
    rw [show (2 : Nat) ^ 8 = 256 by decide] at this
    rw [Nat.mul_comm a 256, ← this]
  rw [f3, U_id (by omega) (by omega)]
  omega

theorem take_law (xs : List Int) (hb : Bytes xs) (hl : xs.length ≤ 8) : take.l0 (0, xs, (xs.length : Int), 0, ()) = some (.exit 0, horner xs, xs, (xs.length : Int), (xs.length : Int), ()) := by
  unfold take.l0
  have := iter_count (t := take.t0) (fun i => ((horner (xs.take i), xs, (xs.length : Int), (i : Int), ()) : Int × List Int × Int × Int × Unit)) (e := .exit 0) (z := (horner xs, xs, (xs.length : Int), (xs.length : Int), ())) (by simp) xs.length 0 rounds (fun i _ hi => ?_) ?_ (rounds_gt (by omega))
  · simpa [horner] using this
  · have hi : i < xs.length := by omega
    have hbt : Bytes (xs.take i) := fun c hc => hb c (List.mem_of_mem_take hc)
    obtain ⟨k1, k2⟩ := horner_bd i (xs.take i) hbt (by rw [List.length_take]; omega)
    have k3 : (256 : Int) ^ i ≤ 256 ^ 7 := by
      have : (256 : Nat) ^ i ≤ 256 ^ 7 := Nat.pow_le_pow_right (by omega) (by omega)
      have h' : ((256 ^ i : Nat) : Int) ≤ ((256 ^ 7 : Nat) : Int) := Int.ofNat_le.2 this
      rw [Int.natCast_pow, Int.natCast_pow] at h'
      exact h'
    have k4 : (256 : Int) ^ 7 = 72057594037927936 := by decide
    obtain ⟨c1, c2⟩ := hb xs[i] (List.getElem_mem hi)
    unfold take.t0
    dsimp only
    rw [tr_ite, decide_eq_true (by omega), if_pos rfl, tr_opt, lget_nat xs hi, Option.bind_some, tr_ite, if_neg (by decide), tr_ret, or_byte k1 (by omega) c1 c2, W_succ (by omega)]
    rw [List.take_succ_eq_append_getElem hi, horner_snoc]
  · rw [Nat.zero_add]
    unfold take.t0
    dsimp only
    rw [tr_ite, decide_eq_false (by omega), if_neg (by simp), tr_ret, List.take_length]

/-! ### Decode, its parts named -/
noncomputable def takeA {α : Type} (k : Int) (r : List Int) (cont : Int → List Int → T α) : T α :=
  T.opt (take.l0 (0, List.take (Int.toNat k - Int.toNat 0) (List.drop (Int.toNat 0) r), (↑(List.take (Int.toNat k - Int.toNat 0) (List.drop (Int.toNat 0) r)).length : Int), 0, ())) fun y => T.ite (exEq y.1 (.exit 0))
    (T.ite (decide (0 ≤ k) && decide (k ≤ (r.length : Int)) && decide ((r.length : Int) ≤ (r.length : Int))) (cont y.2.1 (List.take ((r.length : Int).toNat - Int.toNat k) (List.drop (Int.toNat k) r))) .fail) .fail
noncomputable def takeT {α : Type} (k : Int) (r : List Int) (cont : Int → List Int → T α) : T α :=
  T.ite (decide ((0 : Int) ≤ 0) && decide (0 ≤ k) && decide (k ≤ k) && decide (k ≤ (r.length : Int))) (T.ite ((k - 0).toNat == Int.toNat k - Int.toNat 0) (takeA k r cont) (takeA k r cont)) .fail

theorem takeT_run {α : Type} (k : Nat) (r : List Int) (cont : Int → List Int → T α) (hb : Bytes r) (hk : k ≤ 8) (hr : k ≤ r.length) : (takeT (k : Int) r cont).run = (cont (horner (r.take k)) (r.drop k)).run := by
  have hA : (takeA (k : Int) r cont).run = (cont (horner (r.take k)) (r.drop k)).run := by
    unfold takeA
    have e1 : Int.toNat (k : Int) - Int.toNat 0 = k := by simp
    have e2 : Int.toNat 0 = 0 := rfl
    have e3 : Int.toNat (k : Int) = k := by simp
    have e4 : Int.toNat (r.length : Int) = r.length := by simp
    rw [e1, e2, e3, e4, List.drop_zero]
    have hbt : Bytes (r.take k) := fun c hc => hb c (List.mem_of_mem_take hc)
    rw [tr_opt, take_law _ hbt (by rw [List.length_take]; omega), Option.bind_some, tr_ite, if_pos (by rfl), tr_ite, if_pos (by simp; omega)]
    rw [show r.length - k = (r.drop k).length by rw [List.length_drop], List.take_length]
  unfold takeT
  rw [tr_ite, if_pos (by simp; omega), tr_ite, if_pos (by simp), hA]

abbrev ObT : Type := Int × Int × List (Option Nat) × List Int × Unit

theorem dec_t1 (p : PicT) (r : List Int) (w h : Int) (Ls : List (Option Nat)) (Ds : List Int) (m n i : Int) : image_Decode.t1 (p, r, (w, h, Ls, Ds, ()), m, n, i, ()) = T.ite (decide (i < n))
    (takeT 8 r fun z r' => T.ite (decide ((Ls.length + 1) * 8 ≤ most)) (T.ret (.normal, p, r', (w, h, List.take (Ls.length + 1) (List.take Ls.length Ls ++ [some (Int.toNat z)]), List.take Ds.length Ds, ()), m, n, W (i + 1), ())) .fail)
    (T.ret (.exit 1, p, r, (w, h, List.take Ls.length Ls, List.take Ds.length Ds, ()), m, n, i, ())) := by kernel_rfl

theorem dec_t3 (p : PicT) (r : List Int) (w h : Int) (Ls : List (Option Nat)) (Ds : List Int) (n i : Int) : image_Decode.t3 (p, r, (w, h, Ls, Ds, ()), n, i, ()) = T.ite (decide (i < n))
    (takeT 4 r fun z r' => T.ite (decide ((Ds.length + 1) * 8 ≤ most)) (T.ret (.normal, p, r', (w, h, List.take Ls.length Ls, List.take (Ds.length + 1) (List.take Ds.length Ds ++ [W z]), ()), n, W (i + 1), ())) .fail)
    (T.ret (.exit 3, p, r, (w, h, List.take Ls.length Ls, List.take Ds.length Ds, ()), n, i, ())) := by kernel_rfl

noncomputable def decC (y : Ex × PicT × List Int × ObT × Int × Int × Unit) : T (PicT × Int) :=
  T.ite (exEq y.1 (.exit 3)) (T.opt (image_may (y.2.2.2.1.1, y.2.2.2.1.2.1, List.take y.2.2.2.1.2.2.1.length y.2.2.2.1.2.2.1, List.take y.2.2.2.1.2.2.2.1.length y.2.2.2.1.2.2.2.1)) fun b => T.ite (!b) (T.ret ((0, 0, [], []), 6))
    (T.ret ((y.2.2.2.1.1, y.2.2.2.1.2.1, List.take y.2.2.2.1.2.2.1.length y.2.2.2.1.2.2.1, List.take y.2.2.2.1.2.2.2.1.length y.2.2.2.1.2.2.2.1), 0))) .fail
noncomputable def decB (y : Ex × PicT × List Int × ObT × Int × Int × Int × Unit) : T (PicT × Int) :=
  T.ite (exEq y.1 (.exit 1)) (T.opt (image_Decode.l3 (y.2.1, y.2.2.1, (y.2.2.2.1.1, y.2.2.2.1.2.1, List.take y.2.2.2.1.2.2.1.length y.2.2.2.1.2.2.1, List.take y.2.2.2.1.2.2.2.1.length y.2.2.2.1.2.2.2.1, ()), y.2.2.2.2.1, 0, ())) decC) .fail
noncomputable def decA (x : ByteArray) (w h : Int) (r : List Int) : T (PicT × Int) :=
  T.opt (image_pixels (w, h)) fun n => T.ite (n == 0) (T.ret ((0, 0, [], []), 3)) (T.opt (image_Size (w, h)) fun s => T.ite (decide ((x.size : Int) < s)) (T.ret ((0, 0, [], []), 5))
    (T.opt (image_Size (w, h)) fun s => T.ite (decide ((x.size : Int) > s)) (T.ret ((0, 0, [], []), 6)) (T.opt (image_Decode.l1 ((0, 0, [], []), r, (w, h, [], [], ()), n, W (3 * n), 0, ())) decB)))

theorem dec_t (x : ByteArray) : image_Decode.t x = T.ite (decide ((x.size : Int) < 12)) (T.ret ((0, 0, [], []), 5)) (T.ite (decide ((0 : Int) ≤ 0) && decide ((0 : Int) ≤ 4) && decide (4 ≤ (x.size : Int)))
    (T.ite (!(x.extract (Int.toNat 0) (Int.toNat 4)).toList == (ByteArray.mk #[80, 78, 66, 1]).toList) (T.ret ((0, 0, [], []), 6)) (T.ite (decide ((0 : Int) ≤ 4) && decide (4 ≤ (x.size : Int)) && decide ((x.size : Int) ≤ (x.size : Int)))
      (takeT 4 (bytesOf (x.extract (Int.toNat 4) (x.size : Int).toNat)) fun w r => takeT 4 r fun h r => decA x (W w) (W h) r) .fail)) .fail) := by kernel_rfl
end Go.Proofs.Pen

namespace Go.Proofs.Pen
open Go Go.Proofs

noncomputable def g8 (r : List Int) (j : Nat) : Option Nat := some (Int.toNat (horner ((r.drop (8 * j)).take 8)))
noncomputable def g4 (r : List Int) (j : Nat) : Int := W (horner ((r.drop (4 * j)).take 4))

theorem bytes_drop {r : List Int} (h : Bytes r) (k : Nat) : Bytes (r.drop k) := fun c hc => h c (List.mem_of_mem_drop hc)

theorem dec_loop1 (p : PicT) (r : List Int) (w h m : Int) (n : Nat) (hb : Bytes r) (hr : 8 * n ≤ r.length) (hn : n ≤ 900) :
    image_Decode.l1 (p, r, (w, h, [], [], ()), m, (n : Int), 0, ()) = some (.exit 1, p, r.drop (8 * n), (w, h, (List.range n).map (g8 r), [], ()), m, (n : Int), (n : Int), ()) := by
  unfold image_Decode.l1
  have := iter_count (t := image_Decode.t1) (fun i => ((p, r.drop (8 * i), (w, h, (List.range i).map (g8 r), [], ()), m, (n : Int), (i : Int), ()) : PicT × List Int × ObT × Int × Int × Int × Unit)) (e := .exit 1)
    (z := (p, r.drop (8 * n), (w, h, (List.range n).map (g8 r), [], ()), m, (n : Int), (n : Int), ())) (by simp) n 0 rounds (fun i _ hi => ?_) ?_ (rounds_gt (by omega))
  · simpa using this
  · have hi : i < n := by omega
    rw [dec_t1, tr_ite, decide_eq_true (by omega), if_pos rfl]
    have ht := takeT_run (α := Ex × PicT × List Int × ObT × Int × Int × Int × Unit) 8 (r.drop (8 * i))
    rw [show ((8 : Nat) : Int) = 8 from rfl] at ht
    rw [ht _ (bytes_drop hb _) (by omega) (by rw [List.length_drop]; omega)]
    have hl : ((List.range i).map (g8 r)).length = i := by simp
    rw [tr_ite, decide_eq_true (by rw [hl]; unfold most; omega), if_pos rfl, tr_ret, take_all, W_succ (by omega), List.drop_drop]
    have e1 : 8 * i + 8 = 8 * (i + 1) := by omega
    have e2 : (List.range i).map (g8 r) ++ [some (Int.toNat (horner ((r.drop (8 * i)).take 8)))] = (List.range (i + 1)).map (g8 r) := by
      rw [List.range_succ, List.map_append]; rfl
    rw [e1, e2]; rfl
  · rw [Nat.zero_add, dec_t1, tr_ite, decide_eq_false (by omega), if_neg (by simp), tr_ret, List.take_length]; rfl

theorem dec_loop3 (p : PicT) (r : List Int) (w h : Int) (Ls : List (Option Nat)) (n : Nat) (hb : Bytes r) (hr : 4 * n ≤ r.length) (hn : n ≤ 900) :
    image_Decode.l3 (p, r, (w, h, Ls, [], ()), (n : Int), 0, ()) = some (.exit 3, p, r.drop (4 * n), (w, h, Ls, (List.range n).map (g4 r), ()), (n : Int), (n : Int), ()) := by
  unfold image_Decode.l3
  have := iter_count (t := image_Decode.t3) (fun i => ((p, r.drop (4 * i), (w, h, Ls, (List.range i).map (g4 r), ()), (n : Int), (i : Int), ()) : PicT × List Int × ObT × Int × Int × Unit)) (e := .exit 3)
    (z := (p, r.drop (4 * n), (w, h, Ls, (List.range n).map (g4 r), ()), (n : Int), (n : Int), ())) (by simp) n 0 rounds (fun i _ hi => ?_) ?_ (rounds_gt (by omega))
  · simpa using this
  · have hi : i < n := by omega
    rw [dec_t3, tr_ite, decide_eq_true (by omega), if_pos rfl]
    have ht := takeT_run (α := Ex × PicT × List Int × ObT × Int × Int × Unit) 4 (r.drop (4 * i))
    rw [show ((4 : Nat) : Int) = 4 from rfl] at ht
    rw [ht _ (bytes_drop hb _) (by omega) (by rw [List.length_drop]; omega)]
    have hl : ((List.range i).map (g4 r)).length = i := by simp
    rw [tr_ite, decide_eq_true (by rw [hl]; unfold most; omega), if_pos rfl, tr_ret, take_all, W_succ (by omega), List.drop_drop, List.take_length]
    have e1 : 4 * i + 4 = 4 * (i + 1) := by omega
    have e2 : (List.range i).map (g4 r) ++ [W (horner ((r.drop (4 * i)).take 4))] = (List.range (i + 1)).map (g4 r) := by
      rw [List.range_succ, List.map_append]; rfl
    rw [e1, e2]
  · rw [Nat.zero_add, dec_t3, tr_ite, decide_eq_false (by omega), if_neg (by simp), tr_ret, List.take_length, List.take_length]

/-- Behind the sides. -/
theorem decA_ok (x : ByteArray) (w h : Int) (r : List Int) (n : Nat) (hw : w ≥ 1 ∧ h ≥ 1 ∧ w ≤ 8192 ∧ h ≤ 8192 ∧ W (w * h) ≤ 65536) (hn : (n : Int) = w * h) (hn2 : n ≤ 200) (hs : (x.size : Int) = 12 + 28 * (w * h)) (hb : Bytes r) (hr : r.length = 28 * n) :
    (decA x w h r).run = some (if mayB w h ((List.range (3 * n)).map (g8 r)) ((List.range n).map (g4 (r.drop (8 * (3 * n))))) then ((w, h, (List.range (3 * n)).map (g8 r), (List.range n).map (g4 (r.drop (8 * (3 * n))))), 0) else ((0, 0, [], []), 6)) := by
  obtain ⟨a1, a2, a3, a4, a5⟩ := hw
  have hp : 1 * 1 ≤ w * h := Int.mul_le_mul a1 a2 (by omega) (by omega)
  obtain ⟨s1, s2⟩ := size_ok a1 a2 a3 a4 a5
  have hW : W (12 + W (w * h * 28)) = 12 + 28 * (w * h) := by
    rw [W_id (n := w * h * 28) (by omega) (by omega), W_id (by omega) (by omega)]; omega
  have hW3 : W (3 * (w * h)) = ((3 * n : Nat) : Int) := by rw [W_id (by omega) (by omega)]; omega
  have e0 : (w * h == 0) = false := by
    have : ¬ w * h = 0 := by omega
    simpa using this
  unfold decA
  rw [tr_opt, s1, Option.bind_some, tr_ite, e0, if_neg (by simp), tr_opt, s2, Option.bind_some, hW, tr_ite, decide_eq_false (by omega), if_neg (by simp), tr_opt, Option.bind_some, tr_ite]
  rw [decide_eq_false (by omega), if_neg (by simp), tr_opt, hW3, dec_loop1 _ _ _ _ _ (3 * n) hb (by omega) (by omega), Option.bind_some]
  unfold decB
  rw [tr_ite, if_pos (by rfl), tr_opt]
  dsimp only
  rw [List.take_length, show List.take ([] : List Int).length ([] : List Int) = [] from rfl, ← hn, dec_loop3 _ _ _ _ _ n (bytes_drop hb _) (by rw [List.length_drop]; omega) (by omega), Option.bind_some]
  unfold decC
  rw [tr_ite, if_pos (by rfl), tr_opt]
  dsimp only
  rw [List.take_length, List.take_length, img_may _ _ _ _ (by simp; omega) (by simp; omega), Option.bind_some, tr_ite]
  cases mayB w h ((List.range (3 * n)).map (g8 r)) ((List.range n).map (g4 (r.drop (8 * (3 * n))))) with
  | true => rw [if_neg (by simp), tr_ret, if_pos rfl]
  | false => rw [if_pos (by simp), tr_ret, if_neg (by simp)]
end Go.Proofs.Pen

namespace Go.Proofs.Pen
open Go Go.Proofs

/-! ### Rows of bytes -/
theorem bytes_of (s : ByteArray) : Bytes (bytesOf s) := by
  intro c hc
  unfold bytesOf at hc
  obtain ⟨b, _, rfl⟩ := List.mem_map.1 hc
  have := b.toNat_lt
  constructor <;> omega

theorem bytesOf_len (s : ByteArray) : (bytesOf s).length = s.size := by
  unfold bytesOf
  rw [List.length_map, Array.length_toList]; rfl

theorem bytesOf_ofB {l : List Int} (h : Bytes l) : bytesOf (ofBytes l) = l := by
  unfold bytesOf ofBytes
  simp only [List.map_map]
  refine (List.map_congr_left (g := id) fun n hn => ?_).trans (List.map_id l)
  obtain ⟨h0, h1⟩ := h n hn
  have e : (UInt8.ofNat n.toNat).toNat = n.toNat := by
    rw [UInt8.toNat_ofNat']; omega
  show ((UInt8.ofNat n.toNat).toNat : Int) = n
  rw [e]; omega

theorem ofB_bytesOf (s : ByteArray) : ofBytes (bytesOf s) = s := by
  apply ByteArray.ext
  unfold bytesOf ofBytes
  rw [List.map_map]
  have : (s.data.toList.map ((fun n : Int => UInt8.ofNat n.toNat) ∘ fun b : UInt8 => (b.toNat : Int))) = s.data.toList := by
    refine (List.map_congr_left (g := id) fun b _ => ?_).trans (List.map_id _)
    show UInt8.ofNat ((b.toNat : Int)).toNat = b
    rw [Int.toNat_natCast, UInt8.ofNat_toNat]
  rw [this]

theorem bytesOf_inj {s t : ByteArray} (h : bytesOf s = bytesOf t) : s = t := by rw [← ofB_bytesOf s, h, ofB_bytesOf]

theorem bytesOf_extract (s : ByteArray) (a b : Nat) : bytesOf (s.extract a b) = ((bytesOf s).drop a).take (b - a) := by
  unfold bytesOf
  rw [ByteArray.data_extract, Array.toList_extract, List.extract_eq_take_drop, ← List.map_drop, ← List.map_take]

theorem bytesOf_drop (s : ByteArray) (k : Nat) : bytesOf (s.extract k s.size) = (bytesOf s).drop k := by
  rw [bytesOf_extract]
  exact List.take_of_length_le (by rw [List.length_drop, bytesOf_len]; omega)

theorem byteZ_bd (z : Int) (s : Nat) : 0 ≤ byteZ z s ∧ byteZ z s < 256 := by
  rw [byteZ_eq]; omega

theorem bytes_f8 (o : Option Nat) : Bytes (f8 o) := by
  intro c hc
  obtain ⟨s, _, rfl⟩ := List.mem_map.1 hc
  exact byteZ_bd _ _
theorem bytes_f4 (k : Int) : Bytes (f4 k) := by
  intro c hc
  obtain ⟨s, _, rfl⟩ := List.mem_map.1 hc
  exact byteZ_bd _ _

theorem bytes_app {a b : List Int} (ha : Bytes a) (hb : Bytes b) : Bytes (a ++ b) := fun c hc => (List.mem_append.1 hc).elim (ha c) (hb c)
theorem bytes_flat {α : Type} {f : α → List Int} (h : ∀ x, Bytes (f x)) (l : List α) : Bytes (l.flatMap f) := fun c hc => by
  obtain ⟨x, _, hx⟩ := List.mem_flatMap.1 hc
  exact h x c hx
theorem bytes_tag : Bytes [80, 78, 66, 1] := by
  intro c hc
  simp only [List.mem_cons, List.not_mem_nil, or_false] at hc
  omega

theorem bytes_pic (w h : Int) (L : List (Option Nat)) (D : List Int) : Bytes (picL w h L D) :=
  bytes_app (bytes_app (bytes_app (bytes_app bytes_tag (bytes_f4 w)) (bytes_f4 h)) (bytes_flat bytes_f8 L)) (bytes_flat bytes_f4 D)

theorem pic_len (w h : Int) (L : List (Option Nat)) (D : List Int) : (picL w h L D).length = 12 + 8 * L.length + 4 * D.length := by
  unfold picL
  simp only [List.length_append, f4_len, flat_len f8 8 f8_len, flat_len f4 4 f4_len, List.length_cons, List.length_nil]

/-! ### Decode -/
def tagged (x : ByteArray) : Bool := (x.extract (Int.toNat 0) (Int.toNat 4)).toList == (ByteArray.mk #[80, 78, 66, 1]).toList

theorem dec_short {x : ByteArray} (h : x.size < 12) : image_Decode x = some ((0, 0, [], []), 5) := by
  unfold image_Decode
  rw [dec_t, tr_ite, decide_eq_true (by omega), if_pos rfl, tr_ret]

theorem dec_tag {x : ByteArray} (h : 12 ≤ x.size) (ht : tagged x = false) : image_Decode x = some ((0, 0, [], []), 6) := by
  unfold image_Decode
  unfold tagged at ht
  rw [dec_t, tr_ite, decide_eq_false (by omega), if_neg (by simp), tr_ite, if_pos (by simp; omega), tr_ite, ht, if_pos (by rfl), tr_ret]

noncomputable def hdW (x : ByteArray) : Int := horner (((bytesOf x).drop 4).take 4)
noncomputable def hdH (x : ByteArray) : Int := horner (((bytesOf x).drop 8).take 4)

theorem four_bd {r : List Int} (h : Bytes r) (hl : 4 ≤ r.length) : 0 ≤ horner (r.take 4) ∧ horner (r.take 4) < 4294967296 := by
  have := horner_bd 4 (r.take 4) (fun c hc => h c (List.mem_of_mem_take hc)) (by rw [List.length_take]; omega)
  have e : (256 : Int) ^ 4 = 4294967296 := by decide
  rw [e] at this; exact this

theorem hdW_bd {x : ByteArray} (h : 12 ≤ x.size) : 0 ≤ hdW x ∧ hdW x < 4294967296 := four_bd (bytes_drop (bytes_of x) 4) (by rw [List.length_drop, bytesOf_len]; omega)
theorem hdH_bd {x : ByteArray} (h : 12 ≤ x.size) : 0 ≤ hdH x ∧ hdH x < 4294967296 := four_bd (bytes_drop (bytes_of x) 8) (by rw [List.length_drop, bytesOf_len]; omega)

theorem dec_head {x : ByteArray} (h : 12 ≤ x.size) (ht : tagged x = true) : image_Decode x = (decA x (hdW x) (hdH x) ((bytesOf x).drop 12)).run := by
  unfold image_Decode
  unfold tagged at ht
  have e4 : (x.size : Int).toNat = x.size := by omega
  have e5 : Int.toNat 4 = 4 := rfl
  rw [dec_t, tr_ite, decide_eq_false (by omega), if_neg (by simp), tr_ite, if_pos (by simp; omega), tr_ite, ht, if_neg (by simp), tr_ite, if_pos (by simp; omega), e4, e5, bytesOf_drop]
  have t4 := takeT_run (α := PicT × Int) 4
  rw [show ((4 : Nat) : Int) = 4 from rfl] at t4
  have hl := bytesOf_len x
  rw [t4 _ _ (bytes_drop (bytes_of x) 4) (by omega) (by rw [List.length_drop]; omega), List.drop_drop]
  rw [t4 _ _ (bytes_drop (bytes_of x) _) (by omega) (by rw [List.length_drop]; omega), List.drop_drop]
  have hw := hdW_bd h
  have hh := hdH_bd h
  show (decA x (W (hdW x)) (W (hdH x)) _).run = _
  rw [W_id (by omega) (by omega), W_id (by omega) (by omega)]

def Ok (w h : Int) : Prop := w ≥ 1 ∧ h ≥ 1 ∧ w ≤ 8192 ∧ h ≤ 8192 ∧ W (w * h) ≤ 65536
instance (w h : Int) : Decidable (Ok w h) := by unfold Ok; infer_instance

theorem decA_bad (x : ByteArray) (w h : Int) (r : List Int) (hc : ¬ Ok w h) : (decA x w h r).run = some ((0, 0, [], []), 3) := by
  unfold decA
  rw [tr_opt, (size_no hc).1, Option.bind_some, tr_ite, if_pos (by rfl), tr_ret]

theorem ok_size {w h : Int} (hc : Ok w h) : 1 ≤ w * h ∧ w * h ≤ 65536 ∧ image_pixels (w, h) = some (w * h) ∧ image_Size (w, h) = some (12 + 28 * (w * h)) := by
  obtain ⟨a1, a2, a3, a4, a5⟩ := hc
  have hp : 1 * 1 ≤ w * h := Int.mul_le_mul a1 a2 (by omega) (by omega)
  have hq : w * h ≤ 8192 * 8192 := Int.mul_le_mul a3 a4 (by omega) (by omega)
  obtain ⟨s1, s2⟩ := size_ok a1 a2 a3 a4 a5
  rw [W_id (by omega) (by omega)] at a5
  have hW : W (12 + W (w * h * 28)) = 12 + 28 * (w * h) := by
    rw [W_id (n := w * h * 28) (by omega) (by omega), W_id (by omega) (by omega)]; omega
  rw [hW] at s2
  exact ⟨by omega, a5, s1, s2⟩

theorem decA_less (x : ByteArray) (w h : Int) (r : List Int) (hc : Ok w h) (hs : (x.size : Int) < 12 + 28 * (w * h)) : (decA x w h r).run = some ((0, 0, [], []), 5) := by
  obtain ⟨h1, _, s1, s2⟩ := ok_size hc
  have e0 : (w * h == 0) = false := by
    have : ¬ w * h = 0 := by omega
    simpa using this
  unfold decA
  rw [tr_opt, s1, Option.bind_some, tr_ite, e0, if_neg (by simp), tr_opt, s2, Option.bind_some, tr_ite, decide_eq_true (by omega), if_pos rfl, tr_ret]

theorem decA_more (x : ByteArray) (w h : Int) (r : List Int) (hc : Ok w h) (hs : (x.size : Int) > 12 + 28 * (w * h)) : (decA x w h r).run = some ((0, 0, [], []), 6) := by
  obtain ⟨h1, _, s1, s2⟩ := ok_size hc
  have e0 : (w * h == 0) = false := by
    have : ¬ w * h = 0 := by omega
    simpa using this
  unfold decA
  rw [tr_opt, s1, Option.bind_some, tr_ite, e0, if_neg (by simp), tr_opt, s2, Option.bind_some, tr_ite, decide_eq_false (by omega), if_neg (by simp), tr_opt, Option.bind_some, tr_ite, decide_eq_true (by omega), if_pos rfl, tr_ret]
end Go.Proofs.Pen

namespace Go.Proofs.Pen
open Go Go.Proofs

/-! ### There and back -/
theorem back4 {n : Int} (h0 : 0 ≤ n) (h1 : n < 4294967296) : horner (f4 n) = n := by
  rw [f4_eq h0 (by omega)]
  unfold horner
  simp only [List.foldl_cons, List.foldl_nil]
  omega

theorem back8 {w : Nat} (h : w < 18446744073709551616) : horner (f8 (some w)) = (w : Int) := by
  rw [f8_eq h]
  unfold horner
  simp only [List.foldl_cons, List.foldl_nil]
  omega

theorem fore4 {r : List Int} (hb : Bytes r) (hl : r.length = 4) : f4 (horner r) = r := by
  match r, hl with
  | [a, b, c, d], _ =>
    obtain ⟨a0, a1⟩ := hb a (by simp)
    obtain ⟨b0, b1⟩ := hb b (by simp)
    obtain ⟨c0, c1⟩ := hb c (by simp)
    obtain ⟨d0, d1⟩ := hb d (by simp)
    have e : horner [a, b, c, d] = a * 16777216 + b * 65536 + c * 256 + d := by
      unfold horner
      simp only [List.foldl_cons, List.foldl_nil]
      omega
    rw [e, f4_eq (by omega) (by omega)]
    have e1 : (a * 16777216 + b * 65536 + c * 256 + d) / 16777216 % 256 = a := by omega
    have e2 : (a * 16777216 + b * 65536 + c * 256 + d) / 65536 % 256 = b := by omega
    have e3 : (a * 16777216 + b * 65536 + c * 256 + d) / 256 % 256 = c := by omega
    have e4 : (a * 16777216 + b * 65536 + c * 256 + d) % 256 = d := by omega
    rw [e1, e2, e3, e4]

theorem fore8 {r : List Int} (hb : Bytes r) (hl : r.length = 8) : f8 (some (horner r).toNat) = r ∧ (horner r).toNat < 18446744073709551616 := by
  match r, hl with
  | [a, b, c, d, a', b', c', d'], _ =>
    obtain ⟨a0, a1⟩ := hb a (by simp)
    obtain ⟨b0, b1⟩ := hb b (by simp)
    obtain ⟨c0, c1⟩ := hb c (by simp)
    obtain ⟨d0, d1⟩ := hb d (by simp)
    obtain ⟨s0, s1⟩ := hb a' (by simp)
    obtain ⟨t0, t1⟩ := hb b' (by simp)
    obtain ⟨u0, u1⟩ := hb c' (by simp)
    obtain ⟨v0, v1⟩ := hb d' (by simp)
    have e : horner [a, b, c, d, a', b', c', d'] = a * 72057594037927936 + b * 281474976710656 + c * 1099511627776 + d * 4294967296 + a' * 16777216 + b' * 65536 + c' * 256 + d' := by
      unfold horner
      simp only [List.foldl_cons, List.foldl_nil]
      omega
    rw [e]
    refine ⟨?_, by omega⟩
    rw [f8_eq (by omega)]
    generalize hz : a * 72057594037927936 + b * 281474976710656 + c * 1099511627776 + d * 4294967296 + a' * 16777216 + b' * 65536 + c' * 256 + d' = z
    have ez : ((z.toNat : Nat) : Int) = z := by omega
    rw [ez]
    have e1 : z / 72057594037927936 % 256 = a := by omega
    have e2 : z / 281474976710656 % 256 = b := by omega
    have e3 : z / 1099511627776 % 256 = c := by omega
    have e4 : z / 4294967296 % 256 = d := by omega
    have e5 : z / 16777216 % 256 = a' := by omega
    have e6 : z / 65536 % 256 = b' := by omega
    have e7 : z / 256 % 256 = c' := by omega
    have e8 : z % 256 = d' := by omega
    rw [e1, e2, e3, e4, e5, e6, e7, e8]

theorem flat_get {α : Type} (f : α → List Int) (c : Nat) (h : ∀ x, (f x).length = c) (t : List Int) : ∀ (l : List α) (j : Nat) (hj : j < l.length), ((l.flatMap f ++ t).drop (c * j)).take c = f l[j]
  | [], j, hj => by simp at hj
  | x :: l, 0, _ => by
    rw [List.flatMap_cons, Nat.mul_zero, List.drop_zero, List.append_assoc, ← h x, List.take_left, List.getElem_cons_zero]
  | x :: l, j + 1, hj => by
    rw [List.flatMap_cons, Nat.mul_succ, Nat.add_comm, ← List.drop_drop, List.append_assoc]
    have e : (f x ++ (l.flatMap f ++ t)).drop c = l.flatMap f ++ t := by
      conv => lhs; rw [← h x]
      exact List.drop_left
    rw [e, flat_get f c h t l j (by simpa using hj), List.getElem_cons_succ]

theorem flat_back (c : Nat) (r : List Int) : ∀ n : Nat, c * n ≤ r.length → ((List.range n).map fun j => (r.drop (c * j)).take c).flatten = r.take (c * n)
  | 0, _ => by simp
  | n + 1, h => by
    rw [Nat.mul_succ] at h
    rw [List.range_succ, List.map_append, List.flatten_append, flat_back c r n (by omega), Nat.mul_succ, List.take_add]
    simp

theorem g8_back (L : List (Option Nat)) (t : List Int) (hL : ∀ o, o ∈ L → ∃ w, o = some w ∧ w < 18446744073709551616) : (List.range L.length).map (g8 (L.flatMap f8 ++ t)) = L := by
  apply List.ext_getElem
  · simp
  · intro j h1 h2
    rw [List.getElem_map, List.getElem_range]
    unfold g8
    rw [flat_get f8 8 f8_len t L j h2]
    obtain ⟨w, e, hw⟩ := hL _ (List.getElem_mem h2)
    rw [e, back8 hw]
    rfl

theorem g4_back (D : List Int) (t : List Int) (hD : ∀ k, k ∈ D → 0 ≤ k ∧ k ≤ 2147483647) : (List.range D.length).map (g4 (D.flatMap f4 ++ t)) = D := by
  apply List.ext_getElem
  · simp
  · intro j h1 h2
    rw [List.getElem_map, List.getElem_range]
    unfold g4
    rw [flat_get f4 4 f4_len t D j h2]
    obtain ⟨k0, k1⟩ := hD _ (List.getElem_mem h2)
    rw [back4 k0 (by omega), W_id (by omega) (by omega)]

theorem g8_fore {r : List Int} (hb : Bytes r) (n : Nat) (h : 8 * n ≤ r.length) : ((List.range n).map (g8 r)).flatMap f8 = r.take (8 * n) := by
  rw [← flat_back 8 r n h, List.flatMap_def, List.map_map]
  congr 1
  refine List.map_congr_left fun j hj => ?_
  have hj : j < n := List.mem_range.1 hj
  exact (fore8 (fun c hc => bytes_drop hb _ c (List.mem_of_mem_take hc)) (by rw [List.length_take, List.length_drop]; omega)).1

theorem g4_fore {r : List Int} (hb : Bytes r) (n : Nat) (h : 4 * n ≤ r.length) : ((List.range n).map (g4 r)).flatMap f4 = r.take (4 * n) := by
  rw [← flat_back 4 r n h, List.flatMap_def, List.map_map]
  congr 1
  refine List.map_congr_left fun j hj => ?_
  have hj : j < n := List.mem_range.1 hj
  have hb4 := bytes_drop hb (4 * j)
  have hbd := four_bd hb4 (by rw [List.length_drop]; omega)
  show f4 (W (horner ((r.drop (4 * j)).take 4))) = _
  rw [W_id (by omega) (by omega)]
  exact fore4 (fun c hc => hb4 c (List.mem_of_mem_take hc)) (by rw [List.length_take, List.length_drop]; omega)

/-! ### A picture's bytes, read -/
theorem pic_size (w h : Int) (L : List (Option Nat)) (D : List Int) : (ofBytes (picL w h L D)).size = 12 + 8 * L.length + 4 * D.length := by rw [ofB_size, pic_len]

theorem pic_tag (w h : Int) (L : List (Option Nat)) (D : List Int) : tagged (ofBytes (picL w h L D)) = true := by
  have e : (ofBytes (picL w h L D)).extract (Int.toNat 0) (Int.toNat 4) = ByteArray.mk #[80, 78, 66, 1] := by
    apply bytesOf_inj
    rw [bytesOf_extract, bytesOf_ofB (bytes_pic w h L D)]
    rfl
  unfold tagged
  rw [e]; exact beq_self_eq_true _

theorem drop_left (a b : List Int) (n : Nat) (h : a.length = n) : (a ++ b).drop n = b := by rw [← h, List.drop_left]

theorem pic_drop4 (w h : Int) (L : List (Option Nat)) (D : List Int) : (picL w h L D).drop 4 = f4 w ++ (f4 h ++ (L.flatMap f8 ++ D.flatMap f4)) := by
  unfold picL; rw [List.append_assoc, List.append_assoc, List.append_assoc]; rfl
theorem pic_drop8 (w h : Int) (L : List (Option Nat)) (D : List Int) : (picL w h L D).drop 8 = f4 h ++ (L.flatMap f8 ++ D.flatMap f4) := by
  have : (picL w h L D).drop 8 = ((picL w h L D).drop 4).drop 4 := by rw [List.drop_drop]
  rw [this, pic_drop4, drop_left _ _ 4 (f4_len w)]
theorem pic_drop12 (w h : Int) (L : List (Option Nat)) (D : List Int) : (picL w h L D).drop 12 = L.flatMap f8 ++ D.flatMap f4 := by
  have : (picL w h L D).drop 12 = ((picL w h L D).drop 8).drop 4 := by rw [List.drop_drop]
  rw [this, pic_drop8, drop_left _ _ 4 (f4_len h)]
theorem take_left (a b : List Int) (n : Nat) (h : a.length = n) : (a ++ b).take n = a := by rw [← h, List.take_left]

theorem pic_W {w : Int} (h : Int) (L : List (Option Nat)) (D : List Int) (hw : 0 ≤ w ∧ w < 4294967296) : hdW (ofBytes (picL w h L D)) = w := by
  unfold hdW
  rw [bytesOf_ofB (bytes_pic _ _ _ _), pic_drop4, take_left _ _ 4 (f4_len w), back4 hw.1 hw.2]
theorem pic_H (w : Int) {h : Int} (L : List (Option Nat)) (D : List Int) (hh : 0 ≤ h ∧ h < 4294967296) : hdH (ofBytes (picL w h L D)) = h := by
  unfold hdH
  rw [bytesOf_ofB (bytes_pic _ _ _ _), pic_drop8, take_left _ _ 4 (f4_len h), back4 hh.1 hh.2]

theorem may_parts {w h : Int} {L : List (Option Nat)} {D : List Int} (hm : mayB w h L D = true) : Sz w h L D ∧ (∀ o, o ∈ L → vnum o = true) ∧ ∀ k, k ∈ D → 0 ≤ k ∧ k ≤ 2147483647 := by
  unfold mayB at hm
  simp only [Bool.and_eq_true, decide_eq_true_eq, List.all_eq_true] at hm
  refine ⟨hm.1.1, hm.1.2, fun k hk => ?_⟩
  have := hm.2 k hk
  unfold inD at this
  simp only [Bool.not_eq_true', Bool.or_eq_false_iff, decide_eq_false_iff_not] at this
  omega

theorem dec_pic {w h : Int} {L : List (Option Nat)} {D : List Int} (hm : mayB w h L D = true) (hL : ∀ o, o ∈ L → ∃ w, o = some w ∧ w < 18446744073709551616) (hd : D.length ≤ 200) : image_Decode (ofBytes (picL w h L D)) = some ((w, h, L, D), 0) := by
  obtain ⟨⟨hc, b1, b2⟩, _, hD⟩ := may_parts hm
  obtain ⟨a1, a2, a3, a4, a5⟩ := hc
  have hp : 1 * 1 ≤ w * h := Int.mul_le_mul a1 a2 (by omega) (by omega)
  have hs := pic_size w h L D
  rw [dec_head (by omega) (pic_tag w h L D), pic_W h L D (by omega), pic_H w L D (by omega), bytesOf_ofB (bytes_pic _ _ _ _), pic_drop12]
  have hf8 := flat_len f8 8 f8_len L
  have hf4 := flat_len f4 4 f4_len D
  have h3 : L.length = 3 * D.length := by omega
  rw [decA_ok _ w h _ D.length ⟨a1, a2, a3, a4, a5⟩ b2 hd (by omega) (bytes_app (bytes_flat bytes_f8 L) (bytes_flat bytes_f4 D)) (by rw [List.length_append]; omega)]
  have e1 : (List.range (3 * D.length)).map (g8 (L.flatMap f8 ++ D.flatMap f4)) = L := by rw [← h3]; exact g8_back L _ hL
  have e2 : (L.flatMap f8 ++ D.flatMap f4).drop (8 * (3 * D.length)) = D.flatMap f4 ++ [] := by rw [List.append_nil]; exact drop_left _ _ _ (by omega)
  rw [e1, e2, g4_back D [] hD, hm, if_pos rfl]
end Go.Proofs.Pen

namespace Go.Proofs.Pen
open Go Go.Proofs

/-! ### A picture is itself -/
theorem ints_self (l : List Int) (hn : l.length ≤ 1000) : ref01_Ints (l, l) = some true := by
  have hl : ref01_Ints.l0 (l, l, false, 0, ()) = some (.exit 0, l, l, false, (l.length : Int), ()) := by
    unfold ref01_Ints.l0
    have := iter_count (t := ref01_Ints.t0) (fun i => ((l, l, false, (i : Int), ()) : List Int × List Int × Bool × Int × Unit)) (e := .exit 0) (z := (l, l, false, (l.length : Int), ())) (by simp) l.length 0 rounds (fun i _ hi => ?_) ?_ (rounds_gt (by omega))
    · simpa using this
    · have hi : i < l.length := by omega
      unfold ref01_Ints.t0
      dsimp only
      rw [tr_ite, decide_eq_true (by omega), if_pos rfl, tr_opt, lget_nat l hi, Option.bind_some, tr_opt, Option.bind_some, tr_ite, if_neg (by simp), tr_ret, W_succ (by omega)]
    · rw [Nat.zero_add]
      unfold ref01_Ints.t0
      dsimp only
      rw [tr_ite, decide_eq_false (by omega), if_neg (by simp), tr_ret]
  unfold ref01_Ints ref01_Ints.t
  dsimp only
  rw [tr_ite, if_neg (by simp), tr_opt, hl, Option.bind_some, tr_ite, if_pos (by rfl), tr_ret]

theorem slices_self (l : List Int) (hn : l.length ≤ 1000) : slices_Equal (l, l) = some true := by
  have hl : slices_Equal.l0 (l, l, false, (l.length : Int), 0, ()) = some (.exit 0, l, l, false, (l.length : Int), (l.length : Int), ()) := by
    unfold slices_Equal.l0
    have := iter_count (t := slices_Equal.t0) (fun i => ((l, l, false, (l.length : Int), (i : Int), ()) : List Int × List Int × Bool × Int × Int × Unit)) (e := .exit 0) (z := (l, l, false, (l.length : Int), (l.length : Int), ())) (by simp) l.length 0 rounds (fun i _ hi => ?_) ?_ (rounds_gt (by omega))
    · simpa using this
    · have hi : i < l.length := by omega
      unfold slices_Equal.t0
      dsimp only
      rw [tr_ite, decide_eq_true (by omega), if_pos rfl, tr_opt, lget_nat l hi, Option.bind_some, tr_opt, Option.bind_some, tr_ite, if_neg (by simp), tr_ret, W_succ (by omega)]
    · rw [Nat.zero_add]
      unfold slices_Equal.t0
      dsimp only
      rw [tr_ite, decide_eq_false (by omega), if_neg (by simp), tr_ret]
  unfold slices_Equal slices_Equal.t
  dsimp only
  rw [tr_ite, if_neg (by simp), tr_opt, hl, Option.bind_some, tr_ite, if_pos (by rfl), tr_ret]

theorem bitsame (w : Nat) : image_Same_1 (some w, some w) = some true := by
  have e : image_Bits (some w) = some (w : Int) := rfl
  unfold image_Same_1 image_Same_1.t
  rw [tr_opt, e, Option.bind_some, tr_opt, Option.bind_some, tr_ret]
  simp

theorem eqF_self (l : List (Option Nat)) (hL : ∀ o, o ∈ l → ∃ w, o = some w ∧ w < 18446744073709551616) (hn : l.length ≤ 1000) : EqF (l, l, ()) = some true := by
  have hl : EqF.l0 (l, (), false, l, (l.length : Int), 0, ()) = some (.exit 0, l, (), false, l, (l.length : Int), (l.length : Int), ()) := by
    unfold EqF.l0
    have := iter_count (t := EqF.t0) (fun i => ((l, (), false, l, (l.length : Int), (i : Int), ()) : List (Option Nat) × Unit × Bool × List (Option Nat) × Int × Int × Unit)) (e := .exit 0) (z := (l, (), false, l, (l.length : Int), (l.length : Int), ())) (by simp) l.length 0 rounds (fun i _ hi => ?_) ?_ (rounds_gt (by omega))
    · simpa using this
    · have hi : i < l.length := by omega
      obtain ⟨w, e, hw⟩ := hL _ (List.getElem_mem hi)
      unfold EqF.t0
      dsimp only
      rw [tr_ite, decide_eq_true (by omega), if_pos rfl, tr_opt, lget_nat l hi, Option.bind_some, tr_opt, Option.bind_some, tr_opt, e, bitsame w, Option.bind_some, tr_ite, if_neg (by simp), tr_ret, W_succ (by omega)]
    · rw [Nat.zero_add]
      unfold EqF.t0
      dsimp only
      rw [tr_ite, decide_eq_false (by omega), if_neg (by simp), tr_ret]
  unfold EqF EqF.t
  dsimp only
  rw [tr_ite, if_neg (by simp), tr_opt, hl, Option.bind_some, tr_ite, if_pos (by rfl), tr_ret]

theorem imgSame_self (p : PicT) (hL : ∀ o, o ∈ p.2.2.1 → ∃ w, o = some w ∧ w < 18446744073709551616) (h1 : p.2.2.1.length ≤ 1000) (h2 : p.2.2.2.length ≤ 1000) : image_Same (p, p) = some true := by
  unfold image_Same image_Same.t
  dsimp only
  rw [tr_ite, if_pos (by simp), tr_opt, eqF_self _ hL h1, Option.bind_some, tr_ite, if_pos rfl, tr_opt, slices_self _ h2, Option.bind_some, tr_ret]

theorem lawSame_self (p : PicT) (hL : ∀ o, o ∈ p.2.2.1 → ∃ w, o = some w ∧ w < 18446744073709551616 ∧ ford (fop .sub (some w) (some w)) (some 0) = some .eq) (h1 : p.2.2.1.length ≤ 1000) (h2 : p.2.2.2.length ≤ 1000) : law29_same (p, p) = some true := by
  have hl : law29_same.l0 (p, p, false, 0, ()) = some (.exit 0, p, p, false, (p.2.2.1.length : Int), ()) := by
    unfold law29_same.l0
    have := iter_count (t := law29_same.t0) (fun i => ((p, p, false, (i : Int), ()) : PicT × PicT × Bool × Int × Unit)) (e := .exit 0) (z := (p, p, false, (p.2.2.1.length : Int), ())) (by simp) p.2.2.1.length 0 rounds (fun i _ hi => ?_) ?_ (rounds_gt (by omega))
    · simpa using this
    · have hi : i < p.2.2.1.length := by omega
      obtain ⟨w, e, hw, hf⟩ := hL _ (List.getElem_mem hi)
      unfold law29_same.t0
      dsimp only
      rw [tr_ite, decide_eq_true (by omega), if_pos rfl, tr_opt, lget_nat _ hi, Option.bind_some, tr_opt, Option.bind_some, tr_opt, e, fin_self hw hf, Option.bind_some, tr_ite, if_neg (by simp), tr_ret, W_succ (by omega)]
    · rw [Nat.zero_add]
      unfold law29_same.t0
      dsimp only
      rw [tr_ite, decide_eq_false (by omega), if_neg (by simp), tr_ret]
  unfold law29_same law29_same.t
  dsimp only
  rw [tr_ite, if_neg (by simp), tr_opt, ints_self _ h2, Option.bind_some, tr_ite, if_neg (by simp), tr_opt, hl, Option.bind_some, tr_ite, if_pos (by rfl), tr_ret]

theorem imageEncodes_plain (x : PicT) (hx : insAll [TPic] x) : (law29_ImageEncodes.t x).run = some true := by
  obtain ⟨w, h, L, D⟩ := x
  obtain ⟨hw, hh, ⟨_, _, hL⟩, _⟩ := hx
  have hL : ∀ o, o ∈ L → ∃ w, o = some w ∧ w < 18446744073709551616 := hL
  unfold law29_ImageEncodes.t
  dsimp only
  rw [tr_ite]
  by_cases hsm : (L.length : Int) ≤ 200 ∧ (D.length : Int) ≤ 100
  · rw [decide_eq_true hsm.1, decide_eq_true hsm.2, if_neg (by simp), tr_opt]
    have m1 := img_may w h L D (by omega) (by omega)
    have m2 := ref_may w h L D (by omega) (by omega) hL
    cases hm : mayB w h L D with
    | false =>
      rw [hm] at m1 m2
      have e : image_Encode (w, h, L, D) = some (ByteArray.mk #[], 2) := by
        unfold image_Encode
        rw [enc_t, tr_opt, m1, Option.bind_some, tr_ite, if_pos (by rfl), tr_ret]
      rw [e, Option.bind_some, tr_opt, m2, Option.bind_some, tr_ite, if_pos (by rfl), tr_ret]
      simp
    | true =>
      rw [hm] at m1 m2
      obtain ⟨⟨hc, b1, b2⟩, hv, hD⟩ := may_parts hm
      have hc' := hc
      obtain ⟨a1, a2, a3, a4, a5⟩ := hc'
      have hF : ∀ o, o ∈ L → ∃ w, o = some w ∧ w < 18446744073709551616 ∧ ford (fop .sub (some w) (some w)) (some 0) = some .eq := fun o ho => by
        obtain ⟨z, e, hz⟩ := hL o ho
        refine ⟨z, e, hz, ?_⟩
        have := hv o ho
        rw [e, vnum_eq hz] at this
        unfold rnum at this
        simpa using this
      have e1 := enc_ok m1 (fun o ho => (hL o ho).elim fun z hz => ⟨z, hz.1⟩) (by omega) (by omega)
      have e2 := ref_ok (w := w) (h := h) ⟨by omega, by omega⟩ ⟨by omega, by omega⟩ hF hD (by omega) (by omega)
      have e3 := dec_pic hm hL (by omega)
      rw [e1, Option.bind_some, tr_opt, m2, Option.bind_some, tr_ite, if_neg (by simp), tr_opt]
      dsimp only
      rw [e3, Option.bind_some, tr_ite, if_pos rfl, tr_opt, e2, Option.bind_some, tr_ite, if_pos (by simp), tr_opt]
      dsimp only
      rw [lawSame_self _ hF (by dsimp only; omega) (by dsimp only; omega), Option.bind_some, tr_ite, if_pos rfl, tr_opt]
      rw [imgSame_self _ hL (by dsimp only; omega) (by dsimp only; omega), Option.bind_some, tr_ite, if_pos rfl, tr_opt]
      rw [(ok_size hc).2.2.2, Option.bind_some, tr_ret, pic_size]
      have : ((12 + 8 * L.length + 4 * D.length : Nat) : Int) = 12 + 28 * (w * h) := by omega
      rw [this]; simp
  · rw [if_pos, tr_ret]
    by_cases h1 : (L.length : Int) ≤ 200
    · rw [decide_eq_true h1, decide_eq_false fun h2 => hsm ⟨h1, h2⟩]; rfl
    · rw [decide_eq_false h1]; rfl
end Go.Proofs.Pen

namespace Go.Proofs.Pen
open Go Go.Proofs

theorem sget_nat (s : ByteArray) (i : Nat) : sget s (i : Int) = (bytesOf s)[i]? := by
  have e : (s[i]?) = s.data.toList[i]? := by
    by_cases h : i < s.size
    · rw [getElem?_pos s i h, List.getElem?_eq_getElem (by rw [Array.length_toList]; exact h)]
      rfl
    · rw [getElem?_neg s i h, List.getElem?_eq_none (by rw [Array.length_toList]; exact Nat.not_lt.1 h)]
  unfold sget bytesOf
  rw [if_neg (by omega), Int.toNat_natCast, e, List.getElem?_map]

theorem number_law (x : ByteArray) (k : Nat) (hk : k ≤ 100) (h : k + 4 ≤ x.size) : ref29_number (x, (k : Int)) = some (horner (((bytesOf x).drop k).take 4)) := by
  have hlen : (((bytesOf x).drop k).take 4).length = 4 := by rw [List.length_take, List.length_drop, bytesOf_len]; omega
  have hb : Bytes (((bytesOf x).drop k).take 4) := fun c hc => bytes_drop (bytes_of x) k c (List.mem_of_mem_take hc)
  have hg : ∀ j, j < 4 → (bytesOf x)[k + j]? = (((bytesOf x).drop k).take 4)[j]? := fun j hj => by
    rw [List.getElem?_take_of_lt hj, List.getElem?_drop]
  generalize ((bytesOf x).drop k).take 4 = r at *
  match r, hlen with
  | [a, b, c, d], _ =>
    obtain ⟨a0, a1⟩ := hb a (by simp)
    obtain ⟨b0, b1⟩ := hb b (by simp)
    obtain ⟨c0, c1⟩ := hb c (by simp)
    obtain ⟨d0, d1⟩ := hb d (by simp)
    have g0 := hg 0 (by omega)
    have g1 := hg 1 (by omega)
    have g2 := hg 2 (by omega)
    have g3 := hg 3 (by omega)
    have e1 : W ((k : Int) + 1) = ((k + 1 : Nat) : Int) := by rw [W_id (by omega) (by omega)]; rfl
    have e2 : W ((k : Int) + 2) = ((k + 2 : Nat) : Int) := by rw [W_id (by omega) (by omega)]; rfl
    have e3 : W ((k : Int) + 3) = ((k + 3 : Nat) : Int) := by rw [W_id (by omega) (by omega)]; rfl
    rw [Nat.add_zero] at g0
    unfold ref29_number ref29_number.t
    dsimp only
    rw [e1, e2, e3]
    simp only [tr_opt, sget_nat, g0, g1, g2, g3, List.getElem?_cons_zero, List.getElem?_cons_succ, Option.bind_some, tr_ret]
    have e : horner [a, b, c, d] = a * 16777216 + b * 65536 + c * 256 + d := by
      unfold horner
      simp only [List.foldl_cons, List.foldl_nil]
      omega
    rw [e, W_id (n := a) (by omega) (by omega), W_id (n := b) (by omega) (by omega), W_id (n := c) (by omega) (by omega), W_id (n := d) (by omega) (by omega), W_id (n := a * 16777216) (by omega) (by omega), W_id (n := b * 65536) (by omega) (by omega), W_id (n := c * 256) (by omega) (by omega)]
    rw [W_id (n := a * 16777216 + b * 65536) (by omega) (by omega), W_id (n := a * 16777216 + b * 65536 + c * 256) (by omega) (by omega), W_id (by omega) (by omega)]

/-! ### The reference's sides -/
theorem sides_short {x : ByteArray} (h : x.size < 12) : ref29_Sides x = some (0, 0, 5) := by
  unfold ref29_Sides ref29_Sides.t
  rw [tr_ite, decide_eq_true (by omega), if_pos rfl, tr_ret]

theorem sides_tag {x : ByteArray} (h : 12 ≤ x.size) (ht : tagged x = false) : ref29_Sides x = some (0, 0, 6) := by
  unfold tagged at ht
  unfold ref29_Sides ref29_Sides.t
  rw [tr_ite, decide_eq_false (by omega), if_neg (by simp), tr_ite, if_pos (by simp; omega), tr_ite, ht, if_pos (by rfl), tr_ret]

noncomputable def restT (x : ByteArray) (w h : Int) : T (Int × Int × Int) := T.ite (decide (w < 1) || decide (h < 1) || decide (w > 8192) || decide (h > 8192) || decide (W (w * h) > 65536)) (T.ret (0, 0, 3))
  (T.ite (decide ((x.size : Int) < W (12 + W (W (28 * w) * h)))) (T.ret (0, 0, 5)) (T.ite (decide ((x.size : Int) > W (12 + W (W (28 * w) * h)))) (T.ret (0, 0, 6)) (T.ret (w, h, 0))))

theorem sides_head {x : ByteArray} (h : 12 ≤ x.size) (ht : tagged x = true) : ref29_Sides x = (restT x (hdW x) (hdH x)).run := by
  unfold tagged at ht
  have n4 := number_law x 4 (by omega) (by omega)
  have n8 := number_law x 8 (by omega) (by omega)
  rw [show ((4 : Nat) : Int) = 4 from rfl] at n4
  rw [show ((8 : Nat) : Int) = 8 from rfl] at n8
  unfold ref29_Sides ref29_Sides.t
  rw [tr_ite, decide_eq_false (by omega), if_neg (by simp), tr_ite, if_pos (by simp; omega), tr_ite, ht, if_neg (by simp), tr_opt, n4, Option.bind_some, tr_opt, n8, Option.bind_some]
  rfl

theorem rest_bad (x : ByteArray) {w h : Int} (hc : ¬ Ok w h) : (restT x w h).run = some (0, 0, 3) := by
  have e : (decide (w < 1) || decide (h < 1) || decide (w > 8192) || decide (h > 8192) || decide (W (w * h) > 65536)) = true := by
    apply Classical.byContradiction; intro hn
    simp only [Bool.not_eq_true, Bool.or_eq_false_iff, decide_eq_false_iff_not] at hn
    exact hc ⟨by omega, by omega, by omega, by omega, by omega⟩
  unfold restT
  rw [tr_ite, e, if_pos rfl, tr_ret]

theorem rest_ok (x : ByteArray) {w h : Int} (hc : Ok w h) : (restT x w h).run = some (if (x.size : Int) < 12 + 28 * (w * h) then (0, 0, 5) else if (x.size : Int) > 12 + 28 * (w * h) then (0, 0, 6) else (w, h, 0)) := by
  obtain ⟨h1, h2, _, _⟩ := ok_size hc
  obtain ⟨a1, a2, a3, a4, a5⟩ := hc
  have e : (decide (w < 1) || decide (h < 1) || decide (w > 8192) || decide (h > 8192) || decide (W (w * h) > 65536)) = false := by
    rw [decide_eq_false (by omega), decide_eq_false (by omega), decide_eq_false (by omega), decide_eq_false (by omega), decide_eq_false (by omega)]; rfl
  have e2 : W (12 + W (W (28 * w) * h)) = 12 + 28 * (w * h) := by
    have c2 : W (28 * w) = 28 * w := W_id (by omega) (by omega)
    rw [c2, Int.mul_assoc, W_id (n := 28 * (w * h)) (by omega) (by omega), W_id (by omega) (by omega)]
  unfold restT
  rw [e2, tr_ite, e, if_neg (by simp), tr_ite]
  by_cases c1 : (x.size : Int) < 12 + 28 * (w * h)
  · rw [decide_eq_true c1, if_pos rfl, tr_ret, if_pos c1]
  · rw [decide_eq_false c1, if_neg (by simp), tr_ite, if_neg c1]
    by_cases c3 : (x.size : Int) > 12 + 28 * (w * h)
    · rw [decide_eq_true c3, if_pos rfl, tr_ret, if_pos c3]
    · rw [decide_eq_false c3, if_neg (by simp), tr_ret, if_neg c3]

theorem lawSame_none : law29_same ((0, 0, [], []), (0, 0, [], [])) = some true := lawSame_self (0, 0, [], []) (fun o ho => by simp at ho) (by simp) (by simp)

/-- A tree's tail: the bytes read were no picture. -/
theorem decodes_bad {x : ByteArray} {c : Int} (hs : x.size ≤ 3000) (h1 : image_Decode x = some ((0, 0, [], []), c)) (h2 : ref29_Sides x = some (0, 0, c)) (hc : c ≠ 0) : (law29_ImageDecodes.t x).run = some true := by
  unfold law29_ImageDecodes.t
  have e : (c != 0) = true := by simpa using hc
  rw [tr_ite, decide_eq_false (by omega), if_neg (by simp), tr_opt, h1, Option.bind_some, tr_opt, h2, Option.bind_some, tr_ite]
  dsimp only
  rw [e, if_pos rfl, tr_ite, if_pos (by simp), tr_opt, lawSame_none, Option.bind_some, tr_ret]

theorem tag_bytes {x : ByteArray} (ht : tagged x = true) : (bytesOf x).take 4 = [80, 78, 66, 1] := by
  unfold tagged at ht
  have h := eq_of_beq ht
  rw [ByteArray.toList_eq, ByteArray.toList_eq] at h
  have e : x.extract (Int.toNat 0) (Int.toNat 4) = ByteArray.mk #[80, 78, 66, 1] := ByteArray.ext (Array.toList_inj.1 h)
  have e2 := congrArg bytesOf e
  rw [bytesOf_extract] at e2
  exact e2

/-- A row is its parts. -/
theorem parts (r : List Int) (h : 12 ≤ r.length) : r = r.take 4 ++ (r.drop 4).take 4 ++ (r.drop 8).take 4 ++ r.drop 12 := by
  have e1 : r.drop 8 = (r.drop 4).drop 4 := by rw [List.drop_drop]
  have e2 : r.drop 12 = (r.drop 8).drop 4 := by rw [List.drop_drop]
  rw [e2, List.append_assoc, List.take_append_drop, e1, List.append_assoc, List.take_append_drop, List.take_append_drop]

theorem imageDecodes_plain (x : ByteArray) (hx : insAll [.str] x) : (law29_ImageDecodes.t x).run = some true := by
  by_cases hs : x.size ≤ 3000
  · by_cases h12 : x.size < 12
    · exact decodes_bad hs (dec_short h12) (sides_short h12) (by omega)
    · have h12 : 12 ≤ x.size := by omega
      cases ht : tagged x with
      | false => exact decodes_bad hs (dec_tag h12 ht) (sides_tag h12 ht) (by omega)
      | true =>
        have d1 := dec_head h12 ht
        have d2 := sides_head h12 ht
        obtain ⟨w0, w1⟩ := hdW_bd h12
        obtain ⟨k0, k1⟩ := hdH_bd h12
        have hpt := parts (bytesOf x) (by rw [bytesOf_len]; exact h12)
        have e4 : f4 (hdW x) = ((bytesOf x).drop 4).take 4 := fore4 (fun c hc => bytes_drop (bytes_of x) 4 c (List.mem_of_mem_take hc)) (by rw [List.length_take, List.length_drop, bytesOf_len]; omega)
        have e8 : f4 (hdH x) = ((bytesOf x).drop 8).take 4 := fore4 (fun c hc => bytes_drop (bytes_of x) 8 c (List.mem_of_mem_take hc)) (by rw [List.length_take, List.length_drop, bytesOf_len]; omega)
        rw [tag_bytes ht, ← e4, ← e8] at hpt
        generalize hdW x = w at *
        generalize hdH x = h at *
        by_cases hc : Ok w h
        · obtain ⟨z1, z2, _, _⟩ := ok_size hc
          rw [rest_ok x hc] at d2
          by_cases c1 : (x.size : Int) < 12 + 28 * (w * h)
          · rw [if_pos c1] at d2
            exact decodes_bad hs (d1.trans (decA_less x w h _ hc c1)) d2 (by omega)
          · rw [if_neg c1] at d2
            by_cases c3 : (x.size : Int) > 12 + 28 * (w * h)
            · rw [if_pos c3] at d2
              exact decodes_bad hs (d1.trans (decA_more x w h _ hc c3)) d2 (by omega)
            · rw [if_neg c3] at d2
              have hsz : (x.size : Int) = 12 + 28 * (w * h) := by omega
              have hb := bytes_drop (bytes_of x) 12
              have hl : ((bytesOf x).drop 12).length = x.size - 12 := by rw [List.length_drop, bytesOf_len]
              generalize (bytesOf x).drop 12 = r at *
              obtain ⟨n, hn⟩ := Int.eq_ofNat_of_zero_le (show 0 ≤ w * h by omega)
              rw [decA_ok x w h r n hc hn.symm (by omega) hsz hb (by omega)] at d1
              have f8e := g8_fore hb (3 * n) (by omega)
              have hb2 := bytes_drop hb (8 * (3 * n))
              have f4e := g4_fore hb2 n (by rw [List.length_drop]; omega)
              have hL1 : ((List.range (3 * n)).map (g8 r)).length = 3 * n := by simp
              have hD1 : ((List.range n).map (g4 (r.drop (8 * (3 * n))))).length = n := by simp
              have hL : ∀ o, o ∈ (List.range (3 * n)).map (g8 r) → ∃ w, o = some w ∧ w < 18446744073709551616 := fun o ho => by
                obtain ⟨j, hj, rfl⟩ := List.mem_map.1 ho
                have hj : j < 3 * n := List.mem_range.1 hj
                exact ⟨_, rfl, (fore8 (fun c hc => bytes_drop hb _ c (List.mem_of_mem_take hc)) (by rw [List.length_take, List.length_drop]; omega)).2⟩
              have hfull : picL w h ((List.range (3 * n)).map (g8 r)) ((List.range n).map (g4 (r.drop (8 * (3 * n))))) = bytesOf x := by
                unfold picL
                rw [hpt, f8e, f4e, List.append_assoc (_ ++ _ ++ _)]
                congr 1
                have : List.take (4 * n) (r.drop (8 * (3 * n))) = r.drop (8 * (3 * n)) := List.take_of_length_le (by rw [List.length_drop]; omega)
                rw [this, List.take_append_drop]
              generalize (List.range (3 * n)).map (g8 r) = Ls at *
              generalize (List.range n).map (g4 (r.drop (8 * (3 * n)))) = Ds at *
              have m2 := ref_may w h Ls Ds (by omega) (by omega) hL
              cases hm : mayB w h Ls Ds with
              | false =>
                rw [hm, if_neg (by simp)] at d1
                unfold law29_ImageDecodes.t
                rw [tr_ite, decide_eq_false (by omega), if_neg (by simp), tr_opt, d1, Option.bind_some, tr_opt, d2, Option.bind_some, tr_ite, if_neg (by simp), tr_ite, if_pos (by simp), tr_ite, if_pos (by simp), tr_opt]
                dsimp only
                rw [lawSame_none, Option.bind_some, tr_ret]
              | true =>
                rw [hm, if_pos rfl] at d1
                rw [hm] at m2
                obtain ⟨⟨hc, b1, b2⟩, hv, hD⟩ := may_parts hm
                obtain ⟨a1, a2, a3, a4, a5⟩ := hc
                have hF : ∀ o, o ∈ Ls → ∃ w, o = some w ∧ w < 18446744073709551616 ∧ ford (fop .sub (some w) (some w)) (some 0) = some .eq := fun o ho => by
                  obtain ⟨z, e, hz⟩ := hL o ho
                  refine ⟨z, e, hz, ?_⟩
                  have := hv o ho
                  rw [e, vnum_eq hz] at this
                  unfold rnum at this
                  simpa using this
                have e2 := ref_ok (w := w) (h := h) ⟨by omega, by omega⟩ ⟨by omega, by omega⟩ hF hD (by omega) (by omega)
                rw [hfull, ofB_bytesOf] at e2
                unfold law29_ImageDecodes.t
                rw [tr_ite, decide_eq_false (by omega), if_neg (by simp), tr_opt, d1, Option.bind_some, tr_opt, d2, Option.bind_some, tr_ite, if_neg (by simp), tr_ite, if_neg (by simp), tr_ite, if_pos rfl, tr_opt]
                dsimp only
                rw [m2, Option.bind_some, tr_ite, if_pos rfl, tr_opt, e2, Option.bind_some, tr_ret]
                simp
        · exact decodes_bad hs (d1.trans (decA_bad x w h _ hc)) (d2.trans (rest_bad x hc)) (by omega)
  · unfold law29_ImageDecodes.t
    rw [tr_ite, decide_eq_true (by omega), if_pos rfl, tr_ret]
end Go.Proofs.Pen
