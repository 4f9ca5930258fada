/- A part of the proof that the law ImageBits is true of every input: models of the functions that the law reaches, and what holds of them. -/
import Derived.Test.YtfkgoljaeggbmabChecked
import Derived.KernelRfl
import Derived.Test.YtfkgoljaeggbmabPenKit0
import Derived.Test.YtfkgoljaeggbmabPenKit1
import Derived.Test.YtfkgoljaeggbmabPenKit2
import Derived.Test.YtfkgoljaeggbmabPenImageBits3
import Derived.Test.YtfkgoljaeggbmabPenKit4
namespace Go.Proofs.Pen
open Go Go.Proofs
abbrev TI : Ty := (.int .i64)
abbrev TPic : Ty := (.st (.pair (.int .i64) (.pair (.int .i64) (.pair (.sl .flt) (.sl (.int .i64))))))
theorem mixed : Try.prog.follows .mixedOrders = true := by kernel_rfl
theorem x64 : ExOK Try.prog 64 bitsAV := bits_ok (by intros; kernel_rfl)
theorem x65 : ExOK Try.prog 65 fromBitsAV := fromBits_ok (by intros; kernel_rfl)
noncomputable def Xs : Nat → List AV → T AV := ext (ext noQ 64 bitsAV) 65 fromBitsAV
theorem Xok : QuietOK Try.prog Xs := quiet_extE (quiet_extE (quiet_none _) x64) x65
end Go.Proofs.Pen

namespace Go.Proofs.Pen
open Go Go.Proofs
noncomputable def image_pixels.t (x : Int × Int) : T (Int) := T.ite (decide ((if x.2 < x.1 then x.2 else x.1) < 1) || decide ((if x.2 > x.1 then x.2 else x.1) > 8192) || decide (W (x.1 * x.2) > 65536)) (T.ret 0) (T.ret (W (x.1 * x.2)))
noncomputable def image_pixels (x : Int × Int) : Option (Int) := (image_pixels.t x).run
noncomputable def image_pixels.q : List AV → T AV := entry [TI, TI] (outR [TI]) fun x => .opt (image_pixels x) .ret
theorem image_pixels.ok : FnOK Try.prog 57 image_pixels.q :=
  entry_call (ps := [TI, TI]) (rs := [TI]) (F := ({ quiet := Xs, deep := noDeep } : Fns)) (D := D0) (S := tabS []) (t := image_pixels.t) mixed Xok (deep_none _) Try.func57 (by kernel_rfl) (sok_fn trivial) (by kernel_rfl) (fun x => by kernel_rfl)
end Go.Proofs.Pen

namespace Go.Proofs.Pen
open Go Go.Proofs
noncomputable def image_Size.t (x : Int × Int) : T (Int) := T.opt (image_pixels x) fun y => T.ite (y == 0) (T.ret 0) (T.ret (W (12 + W (y * 28))))
noncomputable def image_Size (x : Int × Int) : Option (Int) := (image_Size.t x).run
noncomputable def image_Size.q : List AV → T AV := entry [TI, TI] (outR [TI]) fun x => .opt (image_Size x) .ret
theorem image_Size.ok : FnOK Try.prog 18 image_Size.q :=
  entry_call (ps := [TI, TI]) (rs := [TI]) (F := ({ quiet := (ext Xs 57 image_pixels.q), deep := noDeep } : Fns)) (D := D0) (S := tabS []) (t := image_Size.t) mixed (quiet_ext Xok image_pixels.ok) (deep_none _) Try.func18 (by kernel_rfl) (sok_fn trivial) (by kernel_rfl) (fun x => by kernel_rfl)
end Go.Proofs.Pen

namespace Go.Proofs.Pen
open Go Go.Proofs
noncomputable def ref02_Number.t (x : (Option Nat)) : T (Bool) := T.ret (ford (fop BinOp.sub x x) (some 0) == some Ordering.eq)
noncomputable def ref02_Number.q : List AV → T AV := entry [.flt] (outR [.bool]) ref02_Number.t
theorem ref02_Number.ok : FnOK Try.prog 20 ref02_Number.q :=
  entry_in (ps := [.flt]) (rs := [.bool]) (F := ({ quiet := Xs, deep := noDeep } : Fns)) (D := D0) (S := tabS []) (t := ref02_Number.t) mixed Xok (deep_none _) Try.func20 (by kernel_rfl) (sok_fn trivial) (by kernel_rfl) (fun x => by kernel_rfl)
end Go.Proofs.Pen

namespace Go.Proofs.Pen
open Go Go.Proofs
set_option maxRecDepth 100000
noncomputable def law29_awake.t (_ : Unit) : T (Bool) := T.ret true
noncomputable def law29_awake.q : List AV → T AV := entry [] (outR [.bool]) fun _ => .ret (true : dens [.bool])
theorem law29_awake.ok : FnOK Try.prog 11 law29_awake.q := pe_entry mixed Xok 100 20 Try.func11 (by kernel_rfl) (by kernel_rfl)
end Go.Proofs.Pen

namespace Go.Proofs.Pen
open Go Go.Proofs
noncomputable def image_Bits.t (x : (Option Nat)) : T (Int) := T.opt x fun y => T.ret (↑y : Int)
noncomputable def image_Bits (x : (Option Nat)) : Option (Int) := (image_Bits.t x).run
noncomputable def image_Bits.q : List AV → T AV := entry [.flt] (outR [(.int .u64)]) fun x => .opt (image_Bits x) .ret
theorem image_Bits.ok : FnOK Try.prog 21 image_Bits.q :=
  entry_call (ps := [.flt]) (rs := [(.int .u64)]) (F := ({ quiet := Xs, deep := noDeep } : Fns)) (D := D0) (S := tabS []) (t := image_Bits.t) mixed Xok (deep_none _) Try.func21 (by kernel_rfl) (sok_fn trivial) (by kernel_rfl) (fun x => by kernel_rfl)
end Go.Proofs.Pen

namespace Go.Proofs.Pen
open Go Go.Proofs
def ref29_Bits.L0 : List (Nat × Lay) := [(3, .val (.int .u64)), (4, .val .flt), (5, .val TI)]
noncomputable def ref29_Bits.t0 (x : Int × (Option Nat) × Int × Unit) : T (Ex × Int × (Option Nat) × Int × Unit) := T.ite (ford x.2.1 (some 4611686018427387904) == some Ordering.gt || ford x.2.1 (some 4611686018427387904) == some Ordering.eq) (T.ret (Ex.normal, x.1, fop BinOp.quo x.2.1 (some 4611686018427387904), W (x.2.2.1 + 1), ())) (T.ret (Ex.exit 0, x.1, x.2.1, x.2.2.1, ()))
noncomputable def ref29_Bits.l0 (x : Int × (Option Nat) × Int × Unit) : Option (Ex × Int × (Option Nat) × Int × Unit) := (iterT ref29_Bits.t0 rounds x).run
theorem ref29_Bits.k0 : bodies 0 (lp Try.f22 []) = [.loop (loopIn 0 (lp Try.f22 []))] ∧ WP Try.prog 0 (.block 0 (.loop (loopIn 0 (lp Try.f22 [])))) (loopS ref29_Bits.L0 58 0 [.exit 0] ref29_Bits.l0) :=
  loop_tree (L := ref29_Bits.L0) (F := ({ quiet := Xs, deep := noDeep } : Fns)) (D := D0) (tab := []) (t := ref29_Bits.t0) mixed Xok (deep_none _) (fun _ => rfl) (by kernel_rfl) (by kernel_rfl) trivial (fun x => by kernel_rfl)
def ref29_Bits.L2 : List (Nat × Lay) := [(3, .val (.int .u64)), (4, .val .flt), (5, .val TI)]
noncomputable def ref29_Bits.t2 (x : Int × (Option Nat) × Int × Unit) : T (Ex × Int × (Option Nat) × Int × Unit) := T.ite (ford x.2.1 (some 4607182418800017408) == some Ordering.lt && decide (x.2.2.1 > 1)) (T.ret (Ex.normal, x.1, fop BinOp.mul x.2.1 (some 4611686018427387904), W (x.2.2.1 - 1), ())) (T.ret (Ex.exit 2, x.1, x.2.1, x.2.2.1, ()))
noncomputable def ref29_Bits.l2 (x : Int × (Option Nat) × Int × Unit) : Option (Ex × Int × (Option Nat) × Int × Unit) := (iterT ref29_Bits.t2 rounds x).run
theorem ref29_Bits.k2 : bodies 2 (lp Try.f22 []) = [.loop (loopIn 2 (lp Try.f22 []))] ∧ WP Try.prog 0 (.block 2 (.loop (loopIn 2 (lp Try.f22 [])))) (loopS ref29_Bits.L2 58 2 [.exit 2] ref29_Bits.l2) :=
  loop_tree (L := ref29_Bits.L2) (F := ({ quiet := Xs, deep := noDeep } : Fns)) (D := D0) (tab := []) (t := ref29_Bits.t2) mixed Xok (deep_none _) (fun _ => rfl) (by kernel_rfl) (by kernel_rfl) trivial (fun x => by kernel_rfl)
noncomputable def ref29_Bits.t (x : (Option Nat)) : T (Int) := T.ite (!ford x (some 0) == some Ordering.lt) (T.ite (ford x (some 0) == some Ordering.eq) (T.ite (ford (fop BinOp.quo (some 4607182418800017408) x) (some 0) == some Ordering.lt) (T.ite (ford (fop BinOp.sub (some 0) x) (some 0) == some Ordering.eq) (T.ret 9223372036854775808) (T.opt (ref29_Bits.l0 (9223372036854775808, fop BinOp.sub (some 0) x, 1023, ())) fun y => T.ite (exEq y.1 (Ex.exit 0)) (T.opt (ref29_Bits.l2 (y.2.1, y.2.2.1, y.2.2.2.1, ())) fun y => T.ite (exEq y.1 (Ex.exit 2)) (T.ite (ford y.2.2.1 (some 4607182418800017408) == some Ordering.lt) (T.opt (f2i IntKind.u64 (fop BinOp.mul y.2.2.1 (some 4841369599423283200))) fun y_1 => T.ret (IntKind.u64.wrap (y.2.1 + y_1))) (T.opt (f2i IntKind.u64 (fop BinOp.mul (fop BinOp.sub y.2.2.1 (some 4607182418800017408)) (some 4841369599423283200))) fun y_1 => T.ret (IntKind.u64.wrap (IntKind.u64.wrap (y.2.1 + IntKind.u64.wrap (IntKind.u64.wrap y.2.2.2.1 * 4503599627370496)) + y_1)))) T.fail) T.fail)) (T.ite (ford x (some 0) == some Ordering.eq) (T.ret 0) (T.opt (ref29_Bits.l0 (0, x, 1023, ())) fun y => T.ite (exEq y.1 (Ex.exit 0)) (T.opt (ref29_Bits.l2 (y.2.1, y.2.2.1, y.2.2.2.1, ())) fun y => T.ite (exEq y.1 (Ex.exit 2)) (T.ite (ford y.2.2.1 (some 4607182418800017408) == some Ordering.lt) (T.opt (f2i IntKind.u64 (fop BinOp.mul y.2.2.1 (some 4841369599423283200))) fun y_1 => T.ret (IntKind.u64.wrap (y.2.1 + y_1))) (T.opt (f2i IntKind.u64 (fop BinOp.mul (fop BinOp.sub y.2.2.1 (some 4607182418800017408)) (some 4841369599423283200))) fun y_1 => T.ret (IntKind.u64.wrap (IntKind.u64.wrap (y.2.1 + IntKind.u64.wrap (IntKind.u64.wrap y.2.2.2.1 * 4503599627370496)) + y_1)))) T.fail) T.fail))) (T.ite (ford x (some 0) == some Ordering.eq) (T.ret 0) (T.opt (ref29_Bits.l0 (0, x, 1023, ())) fun y => T.ite (exEq y.1 (Ex.exit 0)) (T.opt (ref29_Bits.l2 (y.2.1, y.2.2.1, y.2.2.2.1, ())) fun y => T.ite (exEq y.1 (Ex.exit 2)) (T.ite (ford y.2.2.1 (some 4607182418800017408) == some Ordering.lt) (T.opt (f2i IntKind.u64 (fop BinOp.mul y.2.2.1 (some 4841369599423283200))) fun y_1 => T.ret (IntKind.u64.wrap (y.2.1 + y_1))) (T.opt (f2i IntKind.u64 (fop BinOp.mul (fop BinOp.sub y.2.2.1 (some 4607182418800017408)) (some 4841369599423283200))) fun y_1 => T.ret (IntKind.u64.wrap (IntKind.u64.wrap (y.2.1 + IntKind.u64.wrap (IntKind.u64.wrap y.2.2.2.1 * 4503599627370496)) + y_1)))) T.fail) T.fail))) (T.ite (ford (fop BinOp.sub (some 0) x) (some 0) == some Ordering.eq) (T.ret 9223372036854775808) (T.opt (ref29_Bits.l0 (9223372036854775808, fop BinOp.sub (some 0) x, 1023, ())) fun y => T.ite (exEq y.1 (Ex.exit 0)) (T.opt (ref29_Bits.l2 (y.2.1, y.2.2.1, y.2.2.2.1, ())) fun y => T.ite (exEq y.1 (Ex.exit 2)) (T.ite (ford y.2.2.1 (some 4607182418800017408) == some Ordering.lt) (T.opt (f2i IntKind.u64 (fop BinOp.mul y.2.2.1 (some 4841369599423283200))) fun y_1 => T.ret (IntKind.u64.wrap (y.2.1 + y_1))) (T.opt (f2i IntKind.u64 (fop BinOp.mul (fop BinOp.sub y.2.2.1 (some 4607182418800017408)) (some 4841369599423283200))) fun y_1 => T.ret (IntKind.u64.wrap (IntKind.u64.wrap (y.2.1 + IntKind.u64.wrap (IntKind.u64.wrap y.2.2.2.1 * 4503599627370496)) + y_1)))) T.fail) T.fail))
noncomputable def ref29_Bits (x : (Option Nat)) : Option (Int) := (ref29_Bits.t x).run
noncomputable def ref29_Bits.q : List AV → T AV := entry [.flt] (outR [(.int .u64)]) fun x => .opt (ref29_Bits x) .ret
theorem ref29_Bits.ok : FnOK Try.prog 22 ref29_Bits.q :=
  entry_call (ps := [.flt]) (rs := [(.int .u64)]) (F := ({ quiet := Xs, deep := noDeep } : Fns)) (D := D0) (S := tabS [(0, loopS ref29_Bits.L0 58 0 [.exit 0] ref29_Bits.l0), (2, loopS ref29_Bits.L2 58 2 [.exit 2] ref29_Bits.l2)]) (t := ref29_Bits.t) mixed Xok (deep_none _) Try.func22 (by kernel_rfl) (sok_fn ⟨ref29_Bits.k0, ref29_Bits.k2, trivial⟩) (by kernel_rfl) (fun x => by kernel_rfl)
end Go.Proofs.Pen

namespace Go.Proofs.Pen
open Go Go.Proofs
noncomputable def image_Float.t (x : Int) : T ((Option Nat)) := T.ret (some (Int.toNat x))
noncomputable def image_Float.q : List AV → T AV := entry [(.int .u64)] (outR [.flt]) image_Float.t
theorem image_Float.ok : FnOK Try.prog 24 image_Float.q :=
  entry_in (ps := [(.int .u64)]) (rs := [.flt]) (F := ({ quiet := Xs, deep := noDeep } : Fns)) (D := D0) (S := tabS []) (t := image_Float.t) mixed Xok (deep_none _) Try.func24 (by kernel_rfl) (sok_fn trivial) (by kernel_rfl) (fun x => by kernel_rfl)
end Go.Proofs.Pen

namespace Go.Proofs.Pen
open Go Go.Proofs
noncomputable def ref29_Same.t (x : (Option Nat) × (Option Nat)) : T (Bool) := T.ite (ford x.1 x.2 == some Ordering.eq) (T.ite (ford x.1 (some 0) != some Ordering.eq) (T.ret true) (T.ret (ford (fop BinOp.quo (some 4607182418800017408) x.1) (fop BinOp.quo (some 4607182418800017408) x.2) == some Ordering.eq))) (T.ret false)
noncomputable def ref29_Same (x : (Option Nat) × (Option Nat)) : Option (Bool) := (ref29_Same.t x).run
noncomputable def ref29_Same.q : List AV → T AV := entry [.flt, .flt] (outR [.bool]) fun x => .opt (ref29_Same x) .ret
theorem ref29_Same.ok : FnOK Try.prog 23 ref29_Same.q :=
  entry_call (ps := [.flt, .flt]) (rs := [.bool]) (F := ({ quiet := Xs, deep := noDeep } : Fns)) (D := D0) (S := tabS []) (t := ref29_Same.t) mixed Xok (deep_none _) Try.func23 (by kernel_rfl) (sok_fn trivial) (by kernel_rfl) (fun x => by kernel_rfl)
end Go.Proofs.Pen

namespace Go.Proofs.Pen
open Go Go.Proofs
noncomputable def law29_ImageBits.t (x : (Option Nat) × Int × Int) : T (Bool) := T.ite (decide (x.2.1 ≥ 1) && decide (x.2.2 ≥ 1) && decide (x.2.1 ≤ 8192) && decide (x.2.2 ≤ 8192) && decide (W (x.2.1 * x.2.2) ≤ 65536)) (T.opt (image_Size x.2) fun y => T.ite (y != W (12 + W (W (28 * x.2.1) * x.2.2))) (T.ret false) (T.ite (!ford (fop BinOp.sub x.1 x.1) (some 0) == some Ordering.eq) (T.ret true) (T.ite true (T.opt (image_Bits x.1) fun y => T.opt (ref29_Bits x.1) fun y_1 => T.ite (y == y_1) (T.opt (ref29_Bits x.1) fun y => T.opt (ref29_Same (some y.toNat, x.1)) fun y => T.ret y) (T.ret false)) (T.ret false)))) (T.opt (image_Size x.2) fun y => T.ite (y != 0) (T.ret false) (T.ite (!ford (fop BinOp.sub x.1 x.1) (some 0) == some Ordering.eq) (T.ret true) (T.ite true (T.opt (image_Bits x.1) fun y => T.opt (ref29_Bits x.1) fun y_1 => T.ite (y == y_1) (T.opt (ref29_Bits x.1) fun y => T.opt (ref29_Same (some y.toNat, x.1)) fun y => T.ret y) (T.ret false)) (T.ret false))))
noncomputable def law29_ImageBits (x : (Option Nat) × Int × Int) : Option (Bool) := (law29_ImageBits.t x).run
noncomputable def law29_ImageBits.q : List AV → T AV := entry [.flt, TI, TI] (outR [.bool]) fun x => .opt (law29_ImageBits x) .ret
theorem law29_ImageBits.ok : FnOK Try.prog 6 law29_ImageBits.q :=
  entry_call (ps := [.flt, TI, TI]) (rs := [.bool]) (F := ({ quiet := (ext (ext (ext (ext (ext (ext (ext Xs 18 image_Size.q) 20 ref02_Number.q) 11 law29_awake.q) 21 image_Bits.q) 22 ref29_Bits.q) 24 image_Float.q) 23 ref29_Same.q), deep := noDeep } : Fns)) (D := D0) (S := tabS []) (t := law29_ImageBits.t) mixed (quiet_ext (quiet_ext (quiet_ext (quiet_ext (quiet_ext (quiet_ext (quiet_ext Xok image_Size.ok) ref02_Number.ok) law29_awake.ok) image_Bits.ok) ref29_Bits.ok) image_Float.ok) ref29_Same.ok) (deep_none _) Try.func6 (by kernel_rfl) (sok_fn trivial) (by kernel_rfl) (fun x => by kernel_rfl)
end Go.Proofs.Pen

namespace Go.Proofs.Pen
open Go Go.Proofs

theorem U_id {n : Int} (h1 : 0 ≤ n) (h2 : n < 18446744073709551616) : IntKind.u64.wrap n = n := by
  have e : (2 ^ IntKind.u64.bits : Int) = 18446744073709551616 := by decide
  have es : IntKind.u64.signed = false := rfl
  unfold IntKind.wrap
  simp only [e, es, Bool.false_and, Bool.false_eq_true, if_false]
  exact Int.emod_eq_of_lt h1 h2

/-- The two loops and what comes behind them. -/
noncomputable def coreE (b : Int) (x : Option Nat) (n : Int) : T Int :=
  T.ite (ford x (some 4607182418800017408) == some Ordering.lt) (T.opt (f2i IntKind.u64 (fop BinOp.mul x (some 4841369599423283200))) fun y_1 => T.ret (IntKind.u64.wrap (b + y_1))) (T.opt (f2i IntKind.u64 (fop BinOp.mul (fop BinOp.sub x (some 4607182418800017408)) (some 4841369599423283200))) fun y_1 => T.ret (IntKind.u64.wrap (IntKind.u64.wrap (b + IntKind.u64.wrap (IntKind.u64.wrap n * 4503599627370496)) + y_1)))
noncomputable def coreD (b : Int) (x : Option Nat) (n : Int) : T Int :=
  T.opt (ref29_Bits.l2 (b, x, n, ())) fun y => T.ite (exEq y.1 (Ex.exit 2)) (coreE y.2.1 y.2.2.1 y.2.2.2.1) T.fail
noncomputable def coreB (b : Int) (x : Option Nat) : T Int :=
  T.opt (ref29_Bits.l0 (b, x, 1023, ())) fun y => T.ite (exEq y.1 (Ex.exit 0)) (coreD y.2.1 y.2.2.1 y.2.2.2.1) T.fail

theorem coreB_of {b b' n : Int} {x y : Option Nat} (h : ref29_Bits.l0 (b, x, 1023, ()) = some (.exit 0, b', y, n, ())) : (coreB b x).run = (coreD b' y n).run := by
  unfold coreB; rw [tr_opt, h]; rfl
theorem coreD_of {b b' n m : Int} {x y : Option Nat} (h : ref29_Bits.l2 (b, x, n, ()) = some (.exit 2, b', y, m, ())) : (coreD b x n).run = (coreE b' y m).run := by
  unfold coreD; rw [tr_opt, h]; rfl

theorem sub_step (r i B : Nat) : r - i * B - B = r - (i + 1) * B := by rw [Nat.succ_mul, Nat.sub_sub]

theorem c2 : (4611686018427387904 : Nat) = rungOf 4503599627370496 (-51) := by decide
theorem c1 : (4607182418800017408 : Nat) = rungOf 4503599627370496 (-52) := by decide

/-- The first loop: halving. -/
theorem loop0 (b : Int) {r : Nat} (h0 : 0 < r) (h : r < 9218868437227405312) :
    ref29_Bits.l0 (b, some r, 1023, ()) = some (.exit 0, b, some (r - (r / 4503599627370496 - 1023) * 4503599627370496), 1023 + ((r / 4503599627370496 - 1023 : Nat) : Int), ()) := by
  unfold ref29_Bits.l0
  have hq : r / 4503599627370496 ≤ 2046 := by omega
  generalize hn : r / 4503599627370496 - 1023 = n
  have hn2 : n ≤ 1023 := by omega
  have := iter_count (t := ref29_Bits.t0) (fun i => ((b, some (r - i * 4503599627370496), 1023 + (i : Int), ()) : Int × Option Nat × Int × Unit)) (e := .exit 0) (z := (b, some (r - n * 4503599627370496), 1023 + (n : Int), ())) (by simp) n 0 rounds (fun i _ hi => ?_) ?_ (rounds_gt (by omega))
  · simpa using this
  · have hi : i < n := by omega
    have hle : (i + 1) * 4503599627370496 ≤ n * 4503599627370496 := Nat.mul_le_mul_right _ hi
    have e9 := Nat.succ_mul i 4503599627370496
    have hbig : 4611686018427387904 ≤ r - i * 4503599627370496 := by omega
    have h1 := (ord_pow (r := r - i * 4503599627370496) (by omega) (by omega) (by omega) c2 (by omega)).2
    unfold ref29_Bits.t0
    dsimp only
    rw [tr_ite, h1, decide_eq_true hbig, if_pos rfl, tr_ret, half (by omega) (by omega)]
    have e1 : W (1023 + (i : Int) + 1) = 1023 + ((i + 1 : Nat) : Int) := by rw [W_id (by omega) (by omega)]; omega
    have e2 := sub_step r i 4503599627370496
    rw [e1, e2]
  · rw [Nat.zero_add]
    have hsm : ¬ 4611686018427387904 ≤ r - n * 4503599627370496 := by omega
    have h1 := (ord_pow (r := r - n * 4503599627370496) (by omega) (by omega) (by omega) c2 (by omega)).2
    unfold ref29_Bits.t0
    dsimp only
    rw [tr_ite, h1, decide_eq_false hsm, if_neg (by simp), tr_ret]

/-- The second one: doubling; the state behind 'i' rounds. -/
theorem loop2 (b : Int) (ρ : Nat → Nat) (n : Nat) (hn : n ≤ 1022) (h0 : ∀ i, i ≤ n → 0 < ρ i ∧ ρ i < 9214364837600034816) (h1 : ∀ i, i < n → ρ i < 4607182418800017408 ∧ dbl (ρ i) = ρ (i + 1)) (h2 : 4607182418800017408 ≤ ρ n ∨ n = 1022) :
    ref29_Bits.l2 (b, some (ρ 0), 1023, ()) = some (.exit 2, b, some (ρ n), 1023 - (n : Int), ()) := by
  unfold ref29_Bits.l2
  have := iter_count (t := ref29_Bits.t2) (fun i => ((b, some (ρ i), 1023 - (i : Int), ()) : Int × Option Nat × Int × Unit)) (e := .exit 2) (z := (b, some (ρ n), 1023 - (n : Int), ())) (by simp) n 0 rounds (fun i _ hi => ?_) ?_ (rounds_gt (by omega))
  · simpa using this
  · have hi : i < n := by omega
    obtain ⟨k1, k2⟩ := h1 i hi
    obtain ⟨k3, k4⟩ := h0 i (by omega)
    have h1 := (ord_pow (r := ρ i) k3 (by omega) (by omega) c1 (by omega)).1
    unfold ref29_Bits.t2
    dsimp only
    have e0 : decide (1023 - (i : Int) > 1) = true := by simp; omega
    rw [tr_ite, h1, decide_eq_true k1, e0, if_pos (by simp), tr_ret, mul2 k3 k4, k2]
    have e1 : W (1023 - (i : Int) - 1) = 1023 - ((i + 1 : Nat) : Int) := by rw [W_id (by omega) (by omega)]; omega
    rw [e1]
  · rw [Nat.zero_add]
    obtain ⟨k3, k4⟩ := h0 n (Nat.le_refl _)
    have h1 := (ord_pow (r := ρ n) k3 (by omega) (by omega) c1 (by omega)).1
    unfold ref29_Bits.t2
    dsimp only
    have e0 : (decide (ρ n < 4607182418800017408) && decide (1023 - (n : Int) > 1)) = false := by
      rcases h2 with h2 | h2
      · have : decide (ρ n < 4607182418800017408) = false := by simp; omega
        rw [this]; rfl
      · have : decide (1023 - (n : Int) > 1) = false := by simp; omega
        rw [this]; simp
    rw [tr_ite, h1, e0, if_neg (by simp), tr_ret]

/-- Behind the second loop: a number from 1 on. -/
theorem tail_norm {b : Int} {F q : Nat} (hF : F < 4503599627370496) (hq : q ≤ 2046) (hb : 0 ≤ b) (hb2 : b ≤ 9223372036854775808) :
    (coreE b (some (4607182418800017408 + F)) (q : Int)).run = some (b + ((q * 4503599627370496 + F : Nat) : Int)) := by
  have h1 := (ord_pow (r := 4607182418800017408 + F) (by omega) (by omega) (by omega) c1 (by omega)).1
  unfold coreE
  rw [tr_ite, h1, decide_eq_false (by omega), if_neg (by simp), tr_opt, frac52 hF, Option.bind_some, tr_ret]
  have e : b + (q : Int) * 4503599627370496 + (F : Int) = b + ((q * 4503599627370496 + F : Nat) : Int) := by omega
  rw [U_id (n := (q : Int)) (by omega) (by omega), U_id (n := (q : Int) * 4503599627370496) (by omega) (by omega), U_id (n := b + (q : Int) * 4503599627370496) (by omega) (by omega), U_id (by omega) (by omega), e]

/-- .. or below. -/
theorem tail_sub {b : Int} {F : Nat} {n : Int} (h0 : 0 < F) (hF : F < 4503599627370496) (hr : rungOf (F * 2 ^ (52 - F.log2)) (-52 - ((52 - F.log2 : Nat) : Int)) < 4607182418800017408) (hb : 0 ≤ b) (hb2 : b ≤ 9223372036854775808) :
    (coreE b (some (rungOf (F * 2 ^ (52 - F.log2)) (-52 - ((52 - F.log2 : Nat) : Int)))) n).run = some (b + (F : Int)) := by
  obtain ⟨k1, k2, k3⟩ := can_frac h0 hF
  have h1 := (ord_pow (r := rungOf (F * 2 ^ (52 - F.log2)) (-52 - ((52 - F.log2 : Nat) : Int))) (by unfold rungOf; omega) (by omega) (by omega) c1 (by omega)).1
  unfold coreE
  rw [tr_ite, h1, decide_eq_true hr, if_pos rfl, tr_opt, mul52 h0 hF, Option.bind_some, tr_ret, U_id (by omega) (by omega)]

theorem core_big {b : Int} (hb : 0 ≤ b) (hb2 : b ≤ 9223372036854775808) {r : Nat} (h0 : 0 < r) (h : r < 9218868437227405312) (hb0 : 1023 ≤ r / 4503599627370496) : (coreB b (some r)).run = some (b + (r : Int)) := by
  have hdiv : r = r / 4503599627370496 * 4503599627370496 + r % 4503599627370496 := by omega
  have hmod : r % 4503599627370496 < 4503599627370496 := Nat.mod_lt _ (by omega)
  rw [coreB_of (loop0 b h0 h)]
  have hbig := hb0
  generalize hQ : r / 4503599627370496 = q at *
  generalize hF : r % 4503599627370496 = F at *
  have e1 : r - (q - 1023) * 4503599627370496 = 4607182418800017408 + F := by
    have := Nat.sub_mul q 1023 4503599627370496
    omega
  have e2 : (1023 : Int) + ((q - 1023 : Nat) : Int) = (q : Int) := by omega
  rw [e1, e2]
  have hl : ref29_Bits.l2 (b, some (4607182418800017408 + F), (q : Int), ()) = some (.exit 2, b, some (4607182418800017408 + F), (q : Int), ()) := by
    unfold ref29_Bits.l2
    have hs : (ref29_Bits.t2 (b, some (4607182418800017408 + F), (q : Int), ())).run = some (.exit 2, b, some (4607182418800017408 + F), (q : Int), ()) := by
      have h1 := (ord_pow (r := 4607182418800017408 + F) (by omega) (by omega) (by omega) c1 (by omega)).1
      unfold ref29_Bits.t2
      dsimp only
      rw [tr_ite, h1, decide_eq_false (by omega), if_neg (by simp), tr_ret]
    have hr : rounds = (rounds - 1) + 1 := by unfold rounds; omega
    rw [hr, iter_step hs]
  rw [coreD_of hl, tail_norm hmod (by omega) hb hb2, ← hdiv]

theorem core_mid {b : Int} (hb : 0 ≤ b) (hb2 : b ≤ 9223372036854775808) {r : Nat} (h0 : 0 < r) (h : r < 9218868437227405312) (hb0 : ¬ 1023 ≤ r / 4503599627370496) (hn0 : 1 ≤ r / 4503599627370496) : (coreB b (some r)).run = some (b + (r : Int)) := by
  have hdiv : r = r / 4503599627370496 * 4503599627370496 + r % 4503599627370496 := by omega
  have hmod : r % 4503599627370496 < 4503599627370496 := Nat.mod_lt _ (by omega)
  rw [coreB_of (loop0 b h0 h)]
  have hbig := hb0
  have hnorm := hn0
  generalize hQ : r / 4503599627370496 = q at *
  generalize hF : r % 4503599627370496 = F at *
  have e1 : q - 1023 = 0 := by omega
  rw [e1, Nat.zero_mul, Nat.sub_zero]
  have e2 : (1023 : Int) + ((0 : Nat) : Int) = 1023 := by omega
  rw [e2]
  have hl := loop2 b (fun i => r + i * 4503599627370496) (1023 - q) (by omega) (fun i hi => by
    have : i * 4503599627370496 ≤ (1023 - q) * 4503599627370496 := Nat.mul_le_mul_right _ hi
    have e := Nat.sub_mul 1023 q 4503599627370496
    omega) (fun i hi => by
    have : (i + 1) * 4503599627370496 ≤ (1023 - q) * 4503599627370496 := Nat.mul_le_mul_right _ hi
    have e := Nat.sub_mul 1023 q 4503599627370496
    have e9 := Nat.succ_mul i 4503599627370496
    refine ⟨by omega, ?_⟩
    unfold dbl
    rw [if_neg (by omega)]
    have e9 := Nat.succ_mul i 4503599627370496
    omega) (.inl (by
    have e := Nat.sub_mul 1023 q 4503599627370496
    omega))
  have e3 : r + (1023 - q) * 4503599627370496 = 4607182418800017408 + F := by
    have e := Nat.sub_mul 1023 q 4503599627370496
    omega
  have e4 : (1023 : Int) - ((1023 - q : Nat) : Int) = (q : Int) := by omega
  simp only [Nat.zero_mul, Nat.add_zero] at hl
  rw [e3, e4] at hl
  rw [coreD_of hl, tail_norm hmod (by omega) hb hb2, ← hdiv]

theorem core_small {b : Int} (hb : 0 ≤ b) (hb2 : b ≤ 9223372036854775808) {r : Nat} (h0 : 0 < r) (h : r < 9218868437227405312) (hb0 : ¬ 1023 ≤ r / 4503599627370496) (hn0 : ¬ 1 ≤ r / 4503599627370496) : (coreB b (some r)).run = some (b + (r : Int)) := by
  have hdiv : r = r / 4503599627370496 * 4503599627370496 + r % 4503599627370496 := by omega
  have hmod : r % 4503599627370496 < 4503599627370496 := Nat.mod_lt _ (by omega)
  rw [coreB_of (loop0 b h0 h)]
  have hbig := hb0
  have hnorm := hn0
  generalize hQ : r / 4503599627370496 = q at *
  generalize hF : r % 4503599627370496 = F at *
  have e1 : q - 1023 = 0 := by omega
  rw [e1, Nat.zero_mul, Nat.sub_zero]
  have e2 : (1023 : Int) + ((0 : Nat) : Int) = 1023 := by omega
  rw [e2]
  have hrF : r = F := by omega
  have hFp : 0 < F := by omega
  obtain ⟨k1, k2, k3⟩ := can_frac hFp hmod
  generalize hj : 52 - F.log2 = j at *
  have hpw : ∀ i, i < j → F * 2 ^ i < 4503599627370496 := fun i hi => by
    have h3 : F < 2 ^ (F.log2 + 1) := Nat.lt_log2_self
    have h4 : F * 2 ^ i < 2 ^ (F.log2 + 1) * 2 ^ i := Nat.mul_lt_mul_of_pos_right h3 (Nat.two_pow_pos _)
    rw [← Nat.pow_add] at h4
    have h5 : (2 : Nat) ^ (F.log2 + 1 + i) ≤ 2 ^ 52 := Nat.pow_le_pow_right (by omega) (by omega)
    rw [two52] at h5
    omega
  have hl := loop2 b (fun i => if i ≤ j then F * 2 ^ i else F * 2 ^ j + (i - j) * 4503599627370496) 1022 (by omega) (fun i hi => by
    split
    · have h1 : F * 1 ≤ F * 2 ^ i := Nat.mul_le_mul_left _ (Nat.two_pow_pos _)
      have h2 : F * 2 ^ i ≤ F * 2 ^ j := Nat.mul_le_mul_left _ (Nat.pow_le_pow_right (by omega) (by omega))
      omega
    · have : (i - j) * 4503599627370496 ≤ 1021 * 4503599627370496 := Nat.mul_le_mul_right _ (by omega)
      omega) (fun i hi => by
    by_cases h1 : i < j
    · rw [if_pos (by omega), if_pos (by omega)]
      have := hpw i h1
      refine ⟨by omega, ?_⟩
      unfold dbl
      rw [if_pos this, Nat.mul_left_comm, Nat.pow_succ, Nat.mul_comm 2]
    · have e : (if i ≤ j then F * 2 ^ i else F * 2 ^ j + (i - j) * 4503599627370496) = F * 2 ^ j + (i - j) * 4503599627370496 := by
        split
        · have : i = j := by omega
          subst this; simp
        · rfl
      have hb : (i - j) * 4503599627370496 ≤ 1020 * 4503599627370496 := Nat.mul_le_mul_right _ (by omega)
      rw [e, if_neg (by omega)]
      refine ⟨by omega, ?_⟩
      unfold dbl
      rw [if_neg (by omega), show i + 1 - j = (i - j) + 1 by omega]
      have e9 := Nat.succ_mul (i - j) 4503599627370496
      omega) (.inr rfl)
  have e3 : (if 1022 ≤ j then F * 2 ^ 1022 else F * 2 ^ j + (1022 - j) * 4503599627370496) = rungOf (F * 2 ^ j) (-52 - (j : Int)) := by
    rw [if_neg (by omega)]
    unfold rungOf
    rw [show (-52 - (j : Int) + 1074).toNat = 1022 - j by omega]; omega
  have e4 : (1023 : Int) - ((1022 : Nat) : Int) = 1 := by omega
  simp only [Nat.zero_le, if_true, Nat.pow_zero, Nat.mul_one] at hl
  rw [e3, e4] at hl
  have hr : rungOf (F * 2 ^ j) (-52 - (j : Int)) < 4607182418800017408 := by
    unfold rungOf
    rw [show (-52 - (j : Int) + 1074).toNat = 1022 - j by omega]
    have : (1022 - j) * 4503599627370496 ≤ 1021 * 4503599627370496 := Nat.mul_le_mul_right _ (by omega)
    omega
  rw [hrF, coreD_of hl]
  subst hj
  exact tail_sub hFp hmod hr hb hb2

theorem core_run {b : Int} (hb : 0 ≤ b) (hb2 : b ≤ 9223372036854775808) {r : Nat} (h0 : 0 < r) (h : r < 9218868437227405312) : (coreB b (some r)).run = some (b + (r : Int)) := by
  by_cases h1 : 1023 ≤ r / 4503599627370496
  · exact core_big hb hb2 h0 h h1
  · by_cases h2 : 1 ≤ r / 4503599627370496
    · exact core_mid hb hb2 h0 h h1 h2
    · exact core_small hb hb2 h0 h h1 h2

theorem inv_pos : fop .quo (some 4607182418800017408) (some 0) = some 9218868437227405312 := by decide +kernel
theorem ord_infp : ford (some 9218868437227405312) (some 0) = some .gt := by decide +kernel
theorem inv_neg : fop .quo (some 4607182418800017408) (some (FF.word true 0)) = some (FF.word true 9218868437227405312) := inv_zero true

theorem bits_eq (x : Option Nat) : ref29_Bits.t x = T.ite (!ford x (some 0) == some Ordering.lt) (T.ite (ford x (some 0) == some Ordering.eq) (T.ite (ford (fop BinOp.quo (some 4607182418800017408) x) (some 0) == some Ordering.lt) (T.ite (ford (fop BinOp.sub (some 0) x) (some 0) == some Ordering.eq) (T.ret 9223372036854775808) (coreB 9223372036854775808 (fop BinOp.sub (some 0) x)))
   (T.ite (ford x (some 0) == some Ordering.eq) (T.ret 0) (coreB 0 x))) (T.ite (ford x (some 0) == some Ordering.eq) (T.ret 0) (coreB 0 x))) (T.ite (ford (fop BinOp.sub (some 0) x) (some 0) == some Ordering.eq) (T.ret 9223372036854775808) (coreB 9223372036854775808 (fop BinOp.sub (some 0) x))) := rfl

/-- The bits of a finite number. -/
theorem bits_law {w : Nat} (h : w < 18446744073709551616) (hf : ford (fop .sub (some w) (some w)) (some 0) = some .eq) : ref29_Bits (some w) = some (w : Int) := by
  obtain ⟨s, r, rfl, hr⟩ := word_split h
  have hfin : r < 9218868437227405312 := by
    apply Classical.byContradiction; intro hn
    rw [not_number s (by omega) hr] at hf
    exact absurd hf (by simp [ford])
  have ho := ord_zero s hfin
  unfold ref29_Bits
  rw [bits_eq, ho]
  cases s with
  | false =>
    rw [word_pos] at *
    by_cases h0 : r = 0
    · subst h0
      rw [inv_pos, ord_infp]
      simp [tr_ite, tr_ret]
    · rw [if_neg h0]
      have hc := core_run (b := 0) (by omega) (by omega) (Nat.pos_of_ne_zero h0) hfin
      simp [tr_ite, hc]
  | true =>
    have hw : ((FF.word true r : Nat) : Int) = 9223372036854775808 + (r : Int) := by
      have : FF.word true r = FF.signWeight + r := rfl
      rw [this, ff_sw]; omega
    by_cases h0 : r = 0
    · subst h0
      rw [inv_neg, ord_inf, neg_zero, ord_00]
      simp [tr_ite, tr_ret, hw]
    · rw [if_neg h0, neg_pos (Nat.pos_of_ne_zero h0) hfin]
      have hc := core_run (b := 9223372036854775808) (by omega) (by omega) (Nat.pos_of_ne_zero h0) hfin
      have hz := ord_zero false hfin
      rw [word_pos, if_neg h0] at hz
      simp [tr_ite, hc, hz, hw]
end Go.Proofs.Pen

namespace Go.Proofs.Pen
open Go Go.Proofs

theorem same_self {b : Nat} (hn : ford (some b) (some b) = some .eq) (h0 : ford (some b) (some 0) ≠ some .eq ∨ ford (fop BinOp.quo (some 4607182418800017408) (some b)) (fop BinOp.quo (some 4607182418800017408) (some b)) = some .eq) : ref29_Same (some b, some b) = some true := by
  unfold ref29_Same ref29_Same.t
  rw [tr_ite, hn]
  rw [if_pos (by rfl), tr_ite]
  rcases h0 with h0 | h0
  · have : (ford (some b) (some 0) != some Ordering.eq) = true := by simpa using h0
    rw [this, if_pos rfl, tr_ret]
  · by_cases h1 : (ford (some b) (some 0) != some Ordering.eq) = true
    · rw [h1, if_pos rfl, tr_ret]
    · rw [if_neg h1, tr_ret, h0]; rfl

theorem fin_self {w : Nat} (h : w < 18446744073709551616) (hf : ford (fop .sub (some w) (some w)) (some 0) = some .eq) : ref29_Same (some w, some w) = some true := by
  obtain ⟨s, r, rfl, hr⟩ := word_split h
  have hfin : r < 9218868437227405312 := by
    apply Classical.byContradiction; intro hn
    rw [not_number s (by omega) hr] at hf
    exact absurd hf (by simp [ford])
  obtain ⟨m, p, e, _⟩ := read_fin s hfin
  refine same_self (order_self _ _ (by rw [e]; rfl)) ?_
  by_cases h0 : r = 0
  · subst h0
    right
    rw [inv_zero]
    refine order_self _ _ ?_
    cases s <;> decide +kernel
  · left
    rw [ord_zero s hfin, if_neg h0]
    cases s <;> simp

theorem size_ok {w h : Int} (a1 : w ≥ 1) (a2 : h ≥ 1) (a3 : w ≤ 8192) (a4 : h ≤ 8192) (a5 : W (w * h) ≤ 65536) : image_pixels (w, h) = some (w * h) ∧ image_Size (w, h) = some (W (12 + W (w * h * 28))) := by
  have hp : 1 * 1 ≤ w * h := Int.mul_le_mul a1 a2 (by omega) (by omega)
  have hq : w * h ≤ 8192 * 8192 := Int.mul_le_mul a3 a4 (by omega) (by omega)
  have hW : W (w * h) = w * h := W_id (by omega) (by omega)
  have hpx : image_pixels (w, h) = some (w * h) := by
    unfold image_pixels image_pixels.t
    have e1 : (decide ((if h < w then h else w) < 1) || decide ((if h > w then h else w) > 8192) || decide (W (w * h) > 65536)) = false := by
      have b1 : ¬ (if h < w then h else w) < 1 := by split <;> omega
      have b2 : ¬ (if h > w then h else w) > 8192 := by split <;> omega
      have b3 : ¬ W (w * h) > 65536 := by omega
      rw [decide_eq_false b1, decide_eq_false b2, decide_eq_false b3]; rfl
    rw [tr_ite]
    dsimp only
    rw [e1, if_neg (by simp), tr_ret, hW]
  refine ⟨hpx, ?_⟩
  unfold image_Size image_Size.t
  rw [tr_opt, hpx, Option.bind_some, tr_ite]
  have e2 : (w * h == 0) = false := by
    have : ¬ w * h = 0 := by omega
    simpa using this
  rw [e2, if_neg (by simp), tr_ret]

theorem size_no {w h : Int} (hc : ¬ (w ≥ 1 ∧ h ≥ 1 ∧ w ≤ 8192 ∧ h ≤ 8192 ∧ W (w * h) ≤ 65536)) : image_pixels (w, h) = some 0 ∧ image_Size (w, h) = some 0 := by
  have hpx : image_pixels (w, h) = some 0 := by
    unfold image_pixels image_pixels.t
    have e1 : (decide ((if h < w then h else w) < 1) || decide ((if h > w then h else w) > 8192) || decide (W (w * h) > 65536)) = true := by
      apply Classical.byContradiction; intro hn
      simp only [Bool.not_eq_true, Bool.or_eq_false_iff, decide_eq_false_iff_not] at hn
      obtain ⟨⟨b1, b2⟩, b3⟩ := hn
      apply hc
      refine ⟨?_, ?_, ?_, ?_, ?_⟩
      · split at b1 <;> omega
      · split at b1 <;> omega
      · split at b2 <;> omega
      · split at b2 <;> omega
      · omega
    rw [tr_ite]
    dsimp only
    rw [e1, if_pos rfl, tr_ret]
  refine ⟨hpx, ?_⟩
  unfold image_Size image_Size.t
  rw [tr_opt, hpx, Option.bind_some, tr_ite, if_pos (by rfl), tr_ret]

theorem bits_rest {b : Nat} (hb : b < 18446744073709551616) : ((T.ite (!ford (fop BinOp.sub (some b) (some b)) (some 0) == some Ordering.eq) (T.ret true) (T.ite true (T.opt (image_Bits (some b)) fun y => T.opt (ref29_Bits (some b)) fun y_1 => T.ite (y == y_1) (T.opt (ref29_Bits (some b)) fun y => T.opt (ref29_Same (some y.toNat, some b)) fun y => T.ret y) (T.ret false)) (T.ret false))) : T Bool).run = some true := by
  rw [tr_ite]
  by_cases hf : ford (fop BinOp.sub (some b) (some b)) (some 0) = some .eq
  · have e0 : (!ford (fop BinOp.sub (some b) (some b)) (some 0) == some Ordering.eq) = false := by rw [hf]; rfl
    have e1 : image_Bits (some b) = some (b : Int) := rfl
    rw [e0, if_neg (by simp), tr_ite, if_pos rfl, tr_opt, e1, Option.bind_some, tr_opt, bits_law hb hf, Option.bind_some, tr_ite]
    rw [if_pos (by simp), tr_opt, Option.bind_some, tr_opt]
    have e2 : ((b : Int)).toNat = b := by omega
    rw [e2, fin_self hb hf, Option.bind_some, tr_ret]
  · have e0 : (!ford (fop BinOp.sub (some b) (some b)) (some 0) == some Ordering.eq) = true := by simpa using hf
    rw [e0, if_pos rfl, tr_ret]

theorem imageBits_plain (x : (Option Nat) × Int × Int) (hx : insAll [.flt, .int .i64, .int .i64] x) : (law29_ImageBits.t x).run = some true := by
  obtain ⟨o, w, h⟩ := x
  obtain ⟨⟨b, rfl, hb⟩, hw, hh⟩ := hx
  have hb : b < 18446744073709551616 := hb
  have hrest := bits_rest hb
  unfold law29_ImageBits.t
  dsimp only
  rw [tr_ite]
  by_cases hc : w ≥ 1 ∧ h ≥ 1 ∧ w ≤ 8192 ∧ h ≤ 8192 ∧ W (w * h) ≤ 65536
  · obtain ⟨a1, a2, a3, a4, a5⟩ := hc
    have hs := (size_ok a1 a2 a3 a4 a5).2
    have hq : w * h ≤ 8192 * 8192 := Int.mul_le_mul a3 a4 (by omega) (by omega)
    have hp : 1 * 1 ≤ w * h := Int.mul_le_mul a1 a2 (by omega) (by omega)
    have e0 : (decide (w ≥ 1) && decide (h ≥ 1) && decide (w ≤ 8192) && decide (h ≤ 8192) && decide (W (w * h) ≤ 65536)) = true := by
      simp [a1, a2, a3, a4, a5]
    rw [e0, if_pos rfl, tr_opt, hs, Option.bind_some, tr_ite]
    have e1 : W (12 + W (w * h * 28)) = W (12 + W (W (28 * w) * h)) := by
      have c2 : W (28 * w) = 28 * w := W_id (by omega) (by omega)
      have c3 : w * h * 28 = 28 * w * h := by rw [Int.mul_comm (w * h) 28, Int.mul_assoc]
      rw [c2, c3]
    rw [e1, if_neg (by simp)]
    exact hrest
  · have hs := (size_no hc).2
    have e0 : (decide (w ≥ 1) && decide (h ≥ 1) && decide (w ≤ 8192) && decide (h ≤ 8192) && decide (W (w * h) ≤ 65536)) = false := by
      apply Classical.byContradiction; intro hn
      simp only [Bool.not_eq_false, Bool.and_eq_true, decide_eq_true_eq] at hn
      exact hc ⟨hn.1.1.1.1, hn.1.1.1.2, hn.1.1.2, hn.1.2, hn.2⟩
    rw [e0, if_neg (by simp), tr_opt, hs, Option.bind_some, tr_ite, if_neg (by simp)]
    exact hrest
end Go.Proofs.Pen
