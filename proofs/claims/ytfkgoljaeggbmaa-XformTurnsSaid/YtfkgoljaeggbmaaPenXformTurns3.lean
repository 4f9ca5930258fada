/- A part of the proof that the law XformTurns is true of every input: models of the functions that the law reaches, and what holds of them. -/
import Derived.Test.YtfkgoljaeggbmaaChecked
import Derived.KernelRfl
import Derived.Test.YtfkgoljaeggbmaaPenKit0
import Derived.Test.YtfkgoljaeggbmaaPenKit1
import Derived.Test.YtfkgoljaeggbmaaPenKit2
namespace Go.Proofs.Pen
open Go Go.Proofs
abbrev TI : Ty := (.int .i64)
abbrev TPoint : Ty := (.st (.pair (.int .i64) (.pair (.int .i64) (.int .i64))))
abbrev TRect : Ty := (.st (.pair (.int .i64) (.pair (.int .i64) (.pair (.int .i64) (.int .i64)))))
abbrev TMove : Ty := (.st (.pair (.st (.pair (.int .i64) (.pair (.int .i64) (.int .i64)))) (.pair (.st (.pair (.int .i64) (.pair (.int .i64) (.int .i64)))) (.pair (.st (.pair (.int .i64) (.pair (.int .i64) (.int .i64)))) (.st (.pair (.int .i64) (.pair (.int .i64) (.int .i64))))))))
theorem mixed : Try.prog.follows .mixedOrders = true := by kernel_rfl
end Go.Proofs.Pen

namespace Go.Proofs.Pen
open Go Go.Proofs
noncomputable def xform_within.t (x : (Int × Int × Int) × Int) : T (Bool) := T.ret (decide ((if x.1.2.2 < if x.1.2.1 < x.1.1 then x.1.2.1 else x.1.1 then x.1.2.2 else if x.1.2.1 < x.1.1 then x.1.2.1 else x.1.1) ≥ W (0 - x.2)) && decide ((if x.1.2.2 > if x.1.2.1 > x.1.1 then x.1.2.1 else x.1.1 then x.1.2.2 else if x.1.2.1 > x.1.1 then x.1.2.1 else x.1.1) ≤ x.2))
noncomputable def xform_within.q : List AV → T AV := entry [TPoint, TI] (outR [.bool]) xform_within.t
theorem xform_within.ok : FnOK Try.prog 63 xform_within.q :=
  entry_in (ps := [TPoint, TI]) (rs := [.bool]) (F := (⟨noQ, noDeep⟩ : Fns)) (D := D0) (S := tabS []) (t := xform_within.t) mixed (quiet_none _) (deep_none _) Try.func63 (by kernel_rfl) (sok_fn trivial) (by kernel_rfl) (fun x => by kernel_rfl)
end Go.Proofs.Pen

namespace Go.Proofs.Pen
open Go Go.Proofs
noncomputable def xform_Check.t (x : ((Int × Int × Int) × (Int × Int × Int) × (Int × Int × Int) × Int × Int × Int)) : T (Int) := T.ite (!(decide ((if x.1.2.2 < if x.1.2.1 < x.1.1 then x.1.2.1 else x.1.1 then x.1.2.2 else if x.1.2.1 < x.1.1 then x.1.2.1 else x.1.1) ≥ W (0 - 4096)) && decide ((if x.1.2.2 > if x.1.2.1 > x.1.1 then x.1.2.1 else x.1.1 then x.1.2.2 else if x.1.2.1 > x.1.1 then x.1.2.1 else x.1.1) ≤ 4096))) (T.ret 3) (T.ite (!(decide ((if x.2.1.2.2 < if x.2.1.2.1 < x.2.1.1 then x.2.1.2.1 else x.2.1.1 then x.2.1.2.2 else if x.2.1.2.1 < x.2.1.1 then x.2.1.2.1 else x.2.1.1) ≥ W (0 - 4096)) && decide ((if x.2.1.2.2 > if x.2.1.2.1 > x.2.1.1 then x.2.1.2.1 else x.2.1.1 then x.2.1.2.2 else if x.2.1.2.1 > x.2.1.1 then x.2.1.2.1 else x.2.1.1) ≤ 4096))) (T.ret 3) (T.ite (!(decide ((if x.2.2.1.2.2 < if x.2.2.1.2.1 < x.2.2.1.1 then x.2.2.1.2.1 else x.2.2.1.1 then x.2.2.1.2.2 else if x.2.2.1.2.1 < x.2.2.1.1 then x.2.2.1.2.1 else x.2.2.1.1) ≥ W (0 - 4096)) && decide ((if x.2.2.1.2.2 > if x.2.2.1.2.1 > x.2.2.1.1 then x.2.2.1.2.1 else x.2.2.1.1 then x.2.2.1.2.2 else if x.2.2.1.2.1 > x.2.2.1.1 then x.2.2.1.2.1 else x.2.2.1.1) ≤ 4096))) (T.ret 3) (T.ite (!(decide ((if x.2.2.2.2.2 < if x.2.2.2.2.1 < x.2.2.2.1 then x.2.2.2.2.1 else x.2.2.2.1 then x.2.2.2.2.2 else if x.2.2.2.2.1 < x.2.2.2.1 then x.2.2.2.2.1 else x.2.2.2.1) ≥ W (0 - 1048576)) && decide ((if x.2.2.2.2.2 > if x.2.2.2.2.1 > x.2.2.2.1 then x.2.2.2.2.1 else x.2.2.2.1 then x.2.2.2.2.2 else if x.2.2.2.2.1 > x.2.2.2.1 then x.2.2.2.2.1 else x.2.2.2.1) ≤ 1048576))) (T.ret 3) (T.ret 0))))
noncomputable def xform_Check (x : ((Int × Int × Int) × (Int × Int × Int) × (Int × Int × Int) × Int × Int × Int)) : Option (Int) := (xform_Check.t x).run
noncomputable def xform_Check.q : List AV → T AV := entry [TMove] (outR [TI]) fun x => .opt (xform_Check x) .ret
theorem xform_Check.ok : FnOK Try.prog 23 xform_Check.q :=
  entry_call (ps := [TMove]) (rs := [TI]) (F := (⟨(ext noQ 63 xform_within.q), noDeep⟩ : Fns)) (D := D0) (S := tabS []) (t := xform_Check.t) mixed (quiet_ext (quiet_none _) xform_within.ok) (deep_none _) Try.func23 (by kernel_rfl) (sok_fn trivial) (by kernel_rfl) (fun x => by kernel_rfl)
end Go.Proofs.Pen

namespace Go.Proofs.Pen
open Go Go.Proofs
def xform_Exact.L0 : List (Nat × Lay) := [(2, .val .bool), (14, .row TPoint), (15, .val TI), (16, .val TI)]
noncomputable def xform_Exact.t0 (x : Bool × List (Int × Int × Int) × Int × Int × Unit) : T (Ex × Bool × List (Int × Int × Int) × Int × Int × Unit) := T.ite (decide (x.2.2.2.1 < x.2.2.1)) (T.ite (decide (0 ≤ x.2.2.2.1) && decide (x.2.2.2.1 < (↑x.2.1.length : Int))) (T.opt x.2.1[0 + Int.toNat x.2.2.2.1]? fun y => T.ite (!(y.1 == W (W (Int.tdiv y.1 1024) * 1024) && (y.2.1 == W (W (Int.tdiv y.2.1 1024) * 1024) && y.2.2 == W (W (Int.tdiv y.2.2 1024) * 1024)))) (T.ret (Ex.ret, false, List.take x.2.1.length x.2.1, x.2.2.1, x.2.2.2.1, ())) (T.ret (Ex.normal, x.1, List.take x.2.1.length x.2.1, x.2.2.1, W (x.2.2.2.1 + 1), ()))) T.fail) (T.ret (Ex.exit 0, x.1, List.take x.2.1.length x.2.1, x.2.2.1, x.2.2.2.1, ()))
noncomputable def xform_Exact.l0 (x : Bool × List (Int × Int × Int) × Int × Int × Unit) : Option (Ex × Bool × List (Int × Int × Int) × Int × Int × Unit) := (iterT xform_Exact.t0 rounds x).run
theorem xform_Exact.k0 : bodies 0 (lp Try.f25 []) = [.loop (loopIn 0 (lp Try.f25 []))] ∧ WP Try.prog 0 (.block 0 (.loop (loopIn 0 (lp Try.f25 [])))) (loopS xform_Exact.L0 36 0 [.exit 0, .ret] xform_Exact.l0) :=
  loop_tree (L := xform_Exact.L0) (F := (⟨(ext noQ 23 xform_Check.q), noDeep⟩ : Fns)) (D := D0) (tab := []) (t := xform_Exact.t0) mixed (quiet_ext (quiet_none _) xform_Check.ok) (deep_none _) (fun _ => rfl) (by kernel_rfl) (by kernel_rfl) trivial (fun x => by kernel_rfl)
noncomputable def xform_Exact.t (x : ((Int × Int × Int) × (Int × Int × Int) × (Int × Int × Int) × Int × Int × Int)) : T (Bool) := T.opt (xform_Check x) fun y => T.ite (y != 0) (T.ret false) (T.opt (xform_Exact.l0 (false, List.take 3 [x.1, x.2.1, x.2.2.1], (↑3 : Int), 0, ())) fun y => T.ite (exEq y.1 (Ex.exit 0)) (T.ret true) (T.ite (exEq y.1 Ex.ret) (T.ret y.2.1) T.fail))
noncomputable def xform_Exact (x : ((Int × Int × Int) × (Int × Int × Int) × (Int × Int × Int) × Int × Int × Int)) : Option (Bool) := (xform_Exact.t x).run
noncomputable def xform_Exact.q : List AV → T AV := entry [TMove] (outR [.bool]) fun x => .opt (xform_Exact x) .ret
theorem xform_Exact.ok : FnOK Try.prog 25 xform_Exact.q :=
  entry_call (ps := [TMove]) (rs := [.bool]) (F := (⟨(ext noQ 23 xform_Check.q), noDeep⟩ : Fns)) (D := D0) (S := tabS [(0, loopS xform_Exact.L0 36 0 [.exit 0, .ret] xform_Exact.l0)]) (t := xform_Exact.t) mixed (quiet_ext (quiet_none _) xform_Check.ok) (deep_none _) Try.func25 (by kernel_rfl) (sok_fn ⟨xform_Exact.k0, trivial⟩) (by kernel_rfl) (fun x => by kernel_rfl)
end Go.Proofs.Pen

namespace Go.Proofs.Pen
open Go Go.Proofs
noncomputable def xform_column.t (x : ((Int × Int × Int) × (Int × Int × Int) × (Int × Int × Int) × Int × Int × Int) × Int) : T ((Int × Int × Int)) := T.ite (x.2 == 0) (T.ret (x.1.1.1, x.1.2.1.1, x.1.2.2.1.1)) (T.ite (x.2 == 1) (T.ret (x.1.1.2.1, x.1.2.1.2.1, x.1.2.2.1.2.1)) (T.ret (x.1.1.2.2, x.1.2.1.2.2, x.1.2.2.1.2.2)))
noncomputable def xform_column (x : ((Int × Int × Int) × (Int × Int × Int) × (Int × Int × Int) × Int × Int × Int) × Int) : Option ((Int × Int × Int)) := (xform_column.t x).run
noncomputable def xform_column.q : List AV → T AV := entry [TMove, TI] (outR [TPoint]) fun x => .opt (xform_column x) .ret
theorem xform_column.ok : FnOK Try.prog 57 xform_column.q :=
  entry_call (ps := [TMove, TI]) (rs := [TPoint]) (F := (⟨noQ, noDeep⟩ : Fns)) (D := D0) (S := tabS []) (t := xform_column.t) mixed (quiet_none _) (deep_none _) Try.func57 (by kernel_rfl) (sok_fn trivial) (by kernel_rfl) (fun x => by kernel_rfl)
end Go.Proofs.Pen

namespace Go.Proofs.Pen
open Go Go.Proofs
noncomputable def xform_dot_1.t (x : (Int × Int × Int) × (Int × Int × Int)) : T (Int) := T.ite (decide (10 < 0)) T.fail (T.ret ((W (W (W (x.1.1 * x.2.1) + W (x.1.2.1 * x.2.2.1)) + W (x.1.2.2 * x.2.2.2))).fdiv (2 ^ min (Int.toNat 10) IntKind.i64.bits)))
noncomputable def xform_dot_1 (x : (Int × Int × Int) × (Int × Int × Int)) : Option (Int) := (xform_dot_1.t x).run
noncomputable def xform_dot_1.q : List AV → T AV := entry [TPoint, (.ptr TPoint)] (outR [TI]) fun x => .opt (xform_dot_1 x) .ret
theorem xform_dot_1.ok : FnOK Try.prog 78 xform_dot_1.q :=
  entry_call (ps := [TPoint, (.ptr TPoint)]) (rs := [TI]) (F := (⟨noQ, noDeep⟩ : Fns)) (D := D0) (S := tabS []) (t := xform_dot_1.t) mixed (quiet_none _) (deep_none _) Try.func78 (by kernel_rfl) (sok_fn trivial) (by kernel_rfl) (fun x => by kernel_rfl)
end Go.Proofs.Pen

namespace Go.Proofs.Pen
open Go Go.Proofs
noncomputable def xform_dot.t (x : (Int × Int × Int)) : T ((Int × Int × Int)) := T.ret x
noncomputable def xform_dot.q : List AV → T AV := entry [TPoint] (outR [(.clo 78 (.ptr TPoint))]) xform_dot.t
theorem xform_dot.ok : FnOK Try.prog 56 xform_dot.q :=
  entry_in (ps := [TPoint]) (rs := [(.clo 78 (.ptr TPoint))]) (F := (⟨(ext noQ 78 xform_dot_1.q), noDeep⟩ : Fns)) (D := D0) (S := tabS []) (t := xform_dot.t) mixed (quiet_ext (quiet_none _) xform_dot_1.ok) (deep_none _) Try.func56 (by kernel_rfl) (sok_fn trivial) (by kernel_rfl) (fun x => by kernel_rfl)
end Go.Proofs.Pen

namespace Go.Proofs.Pen
open Go Go.Proofs
noncomputable def xform_Then_1.t (x : (Int × Int × Int) × (Int × Int × Int) × (Int × Int × Int) × (Int × Int × Int)) : T ((Int × Int × Int)) := T.opt (xform_dot_1 (x.1, x.2.1)) fun y => T.opt (xform_dot_1 (x.1, x.2.2.1)) fun y_1 => T.opt (xform_dot_1 (x.1, x.2.2.2)) fun y_2 => T.ret (y, y_1, y_2)
noncomputable def xform_Then_1 (x : (Int × Int × Int) × (Int × Int × Int) × (Int × Int × Int) × (Int × Int × Int)) : Option ((Int × Int × Int)) := (xform_Then_1.t x).run
noncomputable def xform_Then_1.q : List AV → T AV := entry [TPoint, (.ptr (.clo 78 (.ptr TPoint))), (.ptr (.clo 78 (.ptr TPoint))), (.ptr (.clo 78 (.ptr TPoint)))] (outR [TPoint]) fun x => .opt (xform_Then_1 x) .ret
theorem xform_Then_1.ok : FnOK Try.prog 58 xform_Then_1.q :=
  entry_call (ps := [TPoint, (.ptr (.clo 78 (.ptr TPoint))), (.ptr (.clo 78 (.ptr TPoint))), (.ptr (.clo 78 (.ptr TPoint)))]) (rs := [TPoint]) (F := (⟨(ext noQ 78 xform_dot_1.q), noDeep⟩ : Fns)) (D := D0) (S := tabS []) (t := xform_Then_1.t) mixed (quiet_ext (quiet_none _) xform_dot_1.ok) (deep_none _) Try.func58 (by kernel_rfl) (sok_fn trivial) (by kernel_rfl) (fun x => by kernel_rfl)
end Go.Proofs.Pen

namespace Go.Proofs.Pen
open Go Go.Proofs
noncomputable def xform_Apply.t (x : ((Int × Int × Int) × (Int × Int × Int) × (Int × Int × Int) × Int × Int × Int) × (Int × Int × Int)) : T ((Int × Int × Int) × Int) := T.opt (xform_Check x.1) fun y => T.ite (y != 0) (T.ret ((0, 0, 0), 3)) (T.ite (!(decide ((if x.2.2.2 < if x.2.2.1 < x.2.1 then x.2.2.1 else x.2.1 then x.2.2.2 else if x.2.2.1 < x.2.1 then x.2.2.1 else x.2.1) ≥ W (0 - 1048576)) && decide ((if x.2.2.2 > if x.2.2.1 > x.2.1 then x.2.2.1 else x.2.1 then x.2.2.2 else if x.2.2.1 > x.2.1 then x.2.2.1 else x.2.1) ≤ 1048576))) (T.ret ((0, 0, 0), 3)) (T.opt (xform_dot_1 (x.1.1, x.2)) fun y => T.opt (xform_dot_1 (x.1.2.1, x.2)) fun y_1 => T.opt (xform_dot_1 (x.1.2.2.1, x.2)) fun y_2 => T.ret ((W (y + x.1.2.2.2.1), W (y_1 + x.1.2.2.2.2.1), W (y_2 + x.1.2.2.2.2.2)), 0)))
noncomputable def xform_Apply (x : ((Int × Int × Int) × (Int × Int × Int) × (Int × Int × Int) × Int × Int × Int) × (Int × Int × Int)) : Option ((Int × Int × Int) × Int) := (xform_Apply.t x).run
noncomputable def xform_Apply.q : List AV → T AV := entry [TMove, TPoint] (outR [TPoint, TI]) fun x => .opt (xform_Apply x) .ret
theorem xform_Apply.ok : FnOK Try.prog 22 xform_Apply.q :=
  entry_call (ps := [TMove, TPoint]) (rs := [TPoint, TI]) (F := (⟨(ext (ext (ext (ext noQ 23 xform_Check.q) 63 xform_within.q) 56 xform_dot.q) 78 xform_dot_1.q), noDeep⟩ : Fns)) (D := D0) (S := tabS []) (t := xform_Apply.t) mixed (quiet_ext (quiet_ext (quiet_ext (quiet_ext (quiet_none _) xform_Check.ok) xform_within.ok) xform_dot.ok) xform_dot_1.ok) (deep_none _) Try.func22 (by kernel_rfl) (sok_fn trivial) (by kernel_rfl) (fun x => by kernel_rfl)
end Go.Proofs.Pen

namespace Go.Proofs.Pen
open Go Go.Proofs
noncomputable def xform_Then.t (x : ((Int × Int × Int) × (Int × Int × Int) × (Int × Int × Int) × Int × Int × Int) × ((Int × Int × Int) × (Int × Int × Int) × (Int × Int × Int) × Int × Int × Int)) : T (((Int × Int × Int) × (Int × Int × Int) × (Int × Int × Int) × Int × Int × Int) × Int) := T.opt (xform_Exact x.1) fun y => T.ite (!y) (T.ret (((0, 0, 0), (0, 0, 0), (0, 0, 0), 0, 0, 0), 3)) (T.opt (xform_Exact x.2) fun y => T.ite (!y) (T.ret (((0, 0, 0), (0, 0, 0), (0, 0, 0), 0, 0, 0), 3)) (T.opt (xform_column (x.2, 0)) fun y => T.opt (xform_column (x.2, 1)) fun y_1 => T.opt (xform_column (x.2, 2)) fun y_2 => T.opt (xform_Apply (x.1, x.2.2.2.2)) fun y_3 => T.opt (xform_Then_1 (x.1.1, y, y_1, y_2)) fun y_4 => T.opt (xform_Then_1 (x.1.2.1, y, y_1, y_2)) fun y_5 => T.opt (xform_Then_1 (x.1.2.2.1, y, y_1, y_2)) fun y => T.opt (xform_Check (y_4, y_5, y, y_3.fst)) fun y_6 => T.ite (y_6 != 0) (T.ret (((0, 0, 0), (0, 0, 0), (0, 0, 0), 0, 0, 0), 3)) (T.ret ((y_4, y_5, y, y_3.fst), 0))))
noncomputable def xform_Then (x : ((Int × Int × Int) × (Int × Int × Int) × (Int × Int × Int) × Int × Int × Int) × ((Int × Int × Int) × (Int × Int × Int) × (Int × Int × Int) × Int × Int × Int)) : Option (((Int × Int × Int) × (Int × Int × Int) × (Int × Int × Int) × Int × Int × Int) × Int) := (xform_Then.t x).run
noncomputable def xform_Then.q : List AV → T AV := entry [TMove, TMove] (outR [TMove, TI]) fun x => .opt (xform_Then x) .ret
theorem xform_Then.ok : FnOK Try.prog 15 xform_Then.q :=
  entry_call (ps := [TMove, TMove]) (rs := [TMove, TI]) (F := (⟨(ext (ext (ext (ext (ext (ext (ext noQ 25 xform_Exact.q) 57 xform_column.q) 56 xform_dot.q) 58 xform_Then_1.q) 22 xform_Apply.q) 23 xform_Check.q) 78 xform_dot_1.q), noDeep⟩ : Fns)) (D := D0) (S := tabS []) (t := xform_Then.t) mixed (quiet_ext (quiet_ext (quiet_ext (quiet_ext (quiet_ext (quiet_ext (quiet_ext (quiet_none _) xform_Exact.ok) xform_column.ok) xform_dot.ok) xform_Then_1.ok) xform_Apply.ok) xform_Check.ok) xform_dot_1.ok) (deep_none _) Try.func15 (by kernel_rfl) (sok_fn trivial) (by kernel_rfl) (fun x => by kernel_rfl)
end Go.Proofs.Pen

namespace Go.Proofs.Pen
open Go Go.Proofs
noncomputable def ref22_In.t (x : (Int × Int × Int) × Int × Int) : T (Bool) := T.ret (decide (x.1.1 ≥ x.2.1) && decide (x.1.1 ≤ x.2.2) && decide (x.1.2.1 ≥ x.2.1) && decide (x.1.2.1 ≤ x.2.2) && decide (x.1.2.2 ≥ x.2.1) && decide (x.1.2.2 ≤ x.2.2))
noncomputable def ref22_In.q : List AV → T AV := entry [TPoint, TI, TI] (outR [.bool]) ref22_In.t
theorem ref22_In.ok : FnOK Try.prog 18 ref22_In.q :=
  entry_in (ps := [TPoint, TI, TI]) (rs := [.bool]) (F := (⟨noQ, noDeep⟩ : Fns)) (D := D0) (S := tabS []) (t := ref22_In.t) mixed (quiet_none _) (deep_none _) Try.func18 (by kernel_rfl) (sok_fn trivial) (by kernel_rfl) (fun x => by kernel_rfl)
end Go.Proofs.Pen

namespace Go.Proofs.Pen
open Go Go.Proofs
noncomputable def ref46_Right.t (x : ((Int × Int × Int) × (Int × Int × Int) × (Int × Int × Int) × Int × Int × Int)) : T (Bool) := T.ite (decide (x.1.1 ≥ -4096) && decide (x.1.1 ≤ 4096) && decide (x.1.2.1 ≥ -4096) && decide (x.1.2.1 ≤ 4096) && decide (x.1.2.2 ≥ -4096) && decide (x.1.2.2 ≤ 4096)) (T.ite (decide (x.2.1.1 ≥ -4096) && decide (x.2.1.1 ≤ 4096) && decide (x.2.1.2.1 ≥ -4096) && decide (x.2.1.2.1 ≤ 4096) && decide (x.2.1.2.2 ≥ -4096) && decide (x.2.1.2.2 ≤ 4096)) (T.ite (decide (x.2.2.1.1 ≥ -4096) && decide (x.2.2.1.1 ≤ 4096) && decide (x.2.2.1.2.1 ≥ -4096) && decide (x.2.2.1.2.1 ≤ 4096) && decide (x.2.2.1.2.2 ≥ -4096) && decide (x.2.2.1.2.2 ≤ 4096)) (T.ret (decide (x.2.2.2.1 ≥ -1048576) && decide (x.2.2.2.1 ≤ 1048576) && decide (x.2.2.2.2.1 ≥ -1048576) && decide (x.2.2.2.2.1 ≤ 1048576) && decide (x.2.2.2.2.2 ≥ -1048576) && decide (x.2.2.2.2.2 ≤ 1048576))) (T.ret false)) (T.ret false)) (T.ret false)
noncomputable def ref46_Right (x : ((Int × Int × Int) × (Int × Int × Int) × (Int × Int × Int) × Int × Int × Int)) : Option (Bool) := (ref46_Right.t x).run
noncomputable def ref46_Right.q : List AV → T AV := entry [TMove] (outR [.bool]) fun x => .opt (ref46_Right x) .ret
theorem ref46_Right.ok : FnOK Try.prog 24 ref46_Right.q :=
  entry_call (ps := [TMove]) (rs := [.bool]) (F := (⟨(ext noQ 18 ref22_In.q), noDeep⟩ : Fns)) (D := D0) (S := tabS []) (t := ref46_Right.t) mixed (quiet_ext (quiet_none _) ref22_In.ok) (deep_none _) Try.func24 (by kernel_rfl) (sok_fn trivial) (by kernel_rfl) (fun x => by kernel_rfl)
end Go.Proofs.Pen

namespace Go.Proofs.Pen
open Go Go.Proofs
noncomputable def ref46_whole.t (x : (Int × Int × Int)) : T (Bool) := T.ite (Int.tmod x.1 1024 == 0) (T.ite (Int.tmod x.2.1 1024 == 0) (T.ret (Int.tmod x.2.2 1024 == 0)) (T.ret false)) (T.ret false)
noncomputable def ref46_whole (x : (Int × Int × Int)) : Option (Bool) := (ref46_whole.t x).run
noncomputable def ref46_whole.q : List AV → T AV := entry [TPoint] (outR [.bool]) fun x => .opt (ref46_whole x) .ret
theorem ref46_whole.ok : FnOK Try.prog 59 ref46_whole.q :=
  entry_call (ps := [TPoint]) (rs := [.bool]) (F := (⟨noQ, noDeep⟩ : Fns)) (D := D0) (S := tabS []) (t := ref46_whole.t) mixed (quiet_none _) (deep_none _) Try.func59 (by kernel_rfl) (sok_fn trivial) (by kernel_rfl) (fun x => by kernel_rfl)
end Go.Proofs.Pen

namespace Go.Proofs.Pen
open Go Go.Proofs
noncomputable def ref46_Exact.t (x : ((Int × Int × Int) × (Int × Int × Int) × (Int × Int × Int) × Int × Int × Int)) : T (Bool) := T.opt (ref46_Right x) fun y => T.ite y (T.opt (ref46_whole x.1) fun y => T.ite y (T.opt (ref46_whole x.2.1) fun y => T.ite y (T.opt (ref46_whole x.2.2.1) fun y => T.ret y) (T.ret false)) (T.ret false)) (T.ret false)
noncomputable def ref46_Exact (x : ((Int × Int × Int) × (Int × Int × Int) × (Int × Int × Int) × Int × Int × Int)) : Option (Bool) := (ref46_Exact.t x).run
noncomputable def ref46_Exact.q : List AV → T AV := entry [TMove] (outR [.bool]) fun x => .opt (ref46_Exact x) .ret
theorem ref46_Exact.ok : FnOK Try.prog 16 ref46_Exact.q :=
  entry_call (ps := [TMove]) (rs := [.bool]) (F := (⟨(ext (ext noQ 24 ref46_Right.q) 59 ref46_whole.q), noDeep⟩ : Fns)) (D := D0) (S := tabS []) (t := ref46_Exact.t) mixed (quiet_ext (quiet_ext (quiet_none _) ref46_Right.ok) ref46_whole.ok) (deep_none _) Try.func16 (by kernel_rfl) (sok_fn trivial) (by kernel_rfl) (fun x => by kernel_rfl)
end Go.Proofs.Pen

namespace Go.Proofs.Pen
open Go Go.Proofs
noncomputable def xform_Scale.t (x : Int) : T (((Int × Int × Int) × (Int × Int × Int) × (Int × Int × Int) × Int × Int × Int)) := T.ret ((x, 0, 0), (0, x, 0), (0, 0, x), 0, 0, 0)
noncomputable def xform_Scale.q : List AV → T AV := entry [TI] (outR [TMove]) xform_Scale.t
theorem xform_Scale.ok : FnOK Try.prog 26 xform_Scale.q :=
  entry_in (ps := [TI]) (rs := [TMove]) (F := (⟨noQ, noDeep⟩ : Fns)) (D := D0) (S := tabS []) (t := xform_Scale.t) mixed (quiet_none _) (deep_none _) Try.func26 (by kernel_rfl) (sok_fn trivial) (by kernel_rfl) (fun x => by kernel_rfl)
end Go.Proofs.Pen

namespace Go.Proofs.Pen
open Go Go.Proofs
noncomputable def xform_One.t (_ : Unit) : T (((Int × Int × Int) × (Int × Int × Int) × (Int × Int × Int) × Int × Int × Int)) := T.ret ((1024, 0, 0), (0, 1024, 0), (0, 0, 1024), 0, 0, 0)
noncomputable def xform_One.q : List AV → T AV := entry [] (outR [TMove]) xform_One.t
theorem xform_One.ok : FnOK Try.prog 21 xform_One.q :=
  entry_in (ps := []) (rs := [TMove]) (F := (⟨(ext noQ 26 xform_Scale.q), noDeep⟩ : Fns)) (D := D0) (S := tabS []) (t := xform_One.t) mixed (quiet_ext (quiet_none _) xform_Scale.ok) (deep_none _) Try.func21 (by kernel_rfl) (sok_fn trivial) (by kernel_rfl) (fun x => by kernel_rfl)
end Go.Proofs.Pen

namespace Go.Proofs.Pen
open Go Go.Proofs
noncomputable def xform_turn_1.t (x : (Int × Int × Int)) : T ((Int × Int × Int)) := T.ret (W (0 - x.1), W (0 - x.2.1), W (0 - x.2.2))
noncomputable def xform_turn_1.q : List AV → T AV := entry [TPoint] (outR [TPoint]) xform_turn_1.t
theorem xform_turn_1.ok : FnOK Try.prog 79 xform_turn_1.q :=
  entry_in (ps := [TPoint]) (rs := [TPoint]) (F := (⟨noQ, noDeep⟩ : Fns)) (D := D0) (S := tabS []) (t := xform_turn_1.t) mixed (quiet_none _) (deep_none _) Try.func79 (by kernel_rfl) (sok_fn trivial) (by kernel_rfl) (fun x => by kernel_rfl)
end Go.Proofs.Pen

namespace Go.Proofs.Pen
open Go Go.Proofs
noncomputable def xform_turn.t (x : Int) : T (((Int × Int × Int) × (Int × Int × Int) × (Int × Int × Int) × Int × Int × Int)) := T.ite (x == 0) (T.ret ((1024, 0, 0), (W (0 - 0), W (0 - 0), W (0 - 1024)), (0, 1024, 0), 0, 0, 0)) (T.ite (x == 1) (T.ret ((0, 0, 1024), (0, 1024, 0), (W (0 - 1024), W (0 - 0), W (0 - 0)), 0, 0, 0)) (T.ret ((W (0 - 0), W (0 - 1024), W (0 - 0)), (1024, 0, 0), (0, 0, 1024), 0, 0, 0)))
noncomputable def xform_turn (x : Int) : Option (((Int × Int × Int) × (Int × Int × Int) × (Int × Int × Int) × Int × Int × Int)) := (xform_turn.t x).run
noncomputable def xform_turn.q : List AV → T AV := entry [TI] (outR [TMove]) fun x => .opt (xform_turn x) .ret
theorem xform_turn.ok : FnOK Try.prog 62 xform_turn.q :=
  entry_call (ps := [TI]) (rs := [TMove]) (F := (⟨(ext noQ 79 xform_turn_1.q), noDeep⟩ : Fns)) (D := D0) (S := tabS []) (t := xform_turn.t) mixed (quiet_ext (quiet_none _) xform_turn_1.ok) (deep_none _) Try.func62 (by kernel_rfl) (sok_fn trivial) (by kernel_rfl) (fun x => by kernel_rfl)
end Go.Proofs.Pen

namespace Go.Proofs.Pen
open Go Go.Proofs
def xform_Quarter.L0 : List (Nat × Lay) := [(0, .val TI), (4, .box TMove), (6, .box TMove), (18, .val TI), (19, .val TI)]
noncomputable def xform_Quarter.t0 (x : Int × ((Int × Int × Int) × (Int × Int × Int) × (Int × Int × Int) × Int × Int × Int) × ((Int × Int × Int) × (Int × Int × Int) × (Int × Int × Int) × Int × Int × Int) × Int × Int × Unit) : T (Ex × Int × ((Int × Int × Int) × (Int × Int × Int) × (Int × Int × Int) × Int × Int × Int) × ((Int × Int × Int) × (Int × Int × Int) × (Int × Int × Int) × Int × Int × Int) × Int × Int × Unit) := T.ite (decide (x.2.2.2.2.1 < x.2.2.2.1)) (T.opt (xform_turn x.1) fun y => T.opt (xform_Then (y, x.2.2.1)) fun y => T.ret (Ex.normal, x.1, x.2.1, y.1, x.2.2.2.1, W (x.2.2.2.2.1 + 1), ())) (T.ret (Ex.exit 0, x.1, x.2.1, x.2.2.1, x.2.2.2.1, x.2.2.2.2.1, ()))
noncomputable def xform_Quarter.l0 (x : Int × ((Int × Int × Int) × (Int × Int × Int) × (Int × Int × Int) × Int × Int × Int) × ((Int × Int × Int) × (Int × Int × Int) × (Int × Int × Int) × Int × Int × Int) × Int × Int × Unit) : Option (Ex × Int × ((Int × Int × Int) × (Int × Int × Int) × (Int × Int × Int) × Int × Int × Int) × ((Int × Int × Int) × (Int × Int × Int) × (Int × Int × Int) × Int × Int × Int) × Int × Int × Unit) := (iterT xform_Quarter.t0 rounds x).run
theorem xform_Quarter.k0 : bodies 0 (lp Try.f20 []) = [.loop (loopIn 0 (lp Try.f20 []))] ∧ WP Try.prog 0 (.block 0 (.loop (loopIn 0 (lp Try.f20 [])))) (loopS xform_Quarter.L0 30 0 [.exit 0] xform_Quarter.l0) :=
  loop_tree (L := xform_Quarter.L0) (F := (⟨(ext (ext (ext (ext (ext (ext noQ 21 xform_One.q) 62 xform_turn.q) 15 xform_Then.q) 58 xform_Then_1.q) 78 xform_dot_1.q) 79 xform_turn_1.q), noDeep⟩ : Fns)) (D := D0) (tab := []) (t := xform_Quarter.t0) mixed (quiet_ext (quiet_ext (quiet_ext (quiet_ext (quiet_ext (quiet_ext (quiet_none _) xform_One.ok) xform_turn.ok) xform_Then.ok) xform_Then_1.ok) xform_dot_1.ok) xform_turn_1.ok) (deep_none _) (fun _ => rfl) (by kernel_rfl) (by kernel_rfl) trivial (fun x => by kernel_rfl)
noncomputable def xform_Quarter.t (x : Int × Int) : T (((Int × Int × Int) × (Int × Int × Int) × (Int × Int × Int) × Int × Int × Int) × Int) := T.ite (decide (x.1 < 0) || decide (x.1 > 2)) (T.ret (((0, 0, 0), (0, 0, 0), (0, 0, 0), 0, 0, 0), 2)) (T.opt (xform_Quarter.l0 (x.1, ((0, 0, 0), (0, 0, 0), (0, 0, 0), 0, 0, 0), ((1024, 0, 0), (0, 1024, 0), (0, 0, 1024), 0, 0, 0), (W (Int.tmod x.2 4 + 4)).tmod 4, 0, ())) fun y => T.ite (exEq y.1 (Ex.exit 0)) (T.ret (y.2.2.2.1, 0)) T.fail)
noncomputable def xform_Quarter (x : Int × Int) : Option (((Int × Int × Int) × (Int × Int × Int) × (Int × Int × Int) × Int × Int × Int) × Int) := (xform_Quarter.t x).run
noncomputable def xform_Quarter.q : List AV → T AV := entry [TI, TI] (outR [TMove, TI]) fun x => .opt (xform_Quarter x) .ret
theorem xform_Quarter.ok : FnOK Try.prog 20 xform_Quarter.q :=
  entry_call (ps := [TI, TI]) (rs := [TMove, TI]) (F := (⟨(ext (ext (ext (ext (ext (ext noQ 21 xform_One.q) 62 xform_turn.q) 15 xform_Then.q) 58 xform_Then_1.q) 78 xform_dot_1.q) 79 xform_turn_1.q), noDeep⟩ : Fns)) (D := D0) (S := tabS [(0, loopS xform_Quarter.L0 30 0 [.exit 0] xform_Quarter.l0)]) (t := xform_Quarter.t) mixed (quiet_ext (quiet_ext (quiet_ext (quiet_ext (quiet_ext (quiet_ext (quiet_none _) xform_One.ok) xform_turn.ok) xform_Then.ok) xform_Then_1.ok) xform_dot_1.ok) xform_turn_1.ok) (deep_none _) Try.func20 (by kernel_rfl) (sok_fn ⟨xform_Quarter.k0, trivial⟩) (by kernel_rfl) (fun x => by kernel_rfl)
end Go.Proofs.Pen

namespace Go.Proofs.Pen
open Go Go.Proofs
noncomputable def law46_awake.t (_ : Unit) : T (Bool) := T.opt (xform_Apply (((512, 0, 0), (0, 512, 0), (0, 0, 512), 0, 0, 0), 3, -3, 0)) fun y => T.opt (xform_Quarter (2, 1)) fun y_1 => T.opt (xform_Apply (y_1.fst, 7, 0, 0)) fun y_2 => T.ite (y.1.1 == 1 && (y.1.2.1 == -2 && y.1.2.2 == 0) && y.2 == 0 && y_1.snd == 0) (T.ite (y_2.fst.fst == 0 && (y_2.fst.snd.fst == 7 && y_2.fst.snd.snd == 0) && y_2.snd == 0) (T.opt (xform_Exact y_1.fst) fun y => T.ite y (T.opt (xform_Exact ((512, 0, 0), (0, 512, 0), (0, 0, 512), 0, 0, 0)) fun y => T.ite (!y) (T.opt (xform_Check ((1024, 0, 0), (0, 1024, 0), (0, 0, 1024), 0, 0, 0)) fun y => T.ret (y == 0)) (T.ret false)) (T.ret false)) (T.ret false)) (T.ret false)
noncomputable def law46_awake (x : Unit) : Option (Bool) := (law46_awake.t x).run
noncomputable def law46_awake.q : List AV → T AV := entry [] (outR [.bool]) fun x => .opt (law46_awake x) .ret
theorem law46_awake.ok : FnOK Try.prog 17 law46_awake.q :=
  entry_call (ps := []) (rs := [.bool]) (F := (⟨(ext (ext (ext (ext (ext (ext (ext (ext (ext noQ 26 xform_Scale.q) 22 xform_Apply.q) 20 xform_Quarter.q) 25 xform_Exact.q) 21 xform_One.q) 23 xform_Check.q) 58 xform_Then_1.q) 78 xform_dot_1.q) 79 xform_turn_1.q), noDeep⟩ : Fns)) (D := D0) (S := tabS []) (t := law46_awake.t) mixed (quiet_ext (quiet_ext (quiet_ext (quiet_ext (quiet_ext (quiet_ext (quiet_ext (quiet_ext (quiet_ext (quiet_none _) xform_Scale.ok) xform_Apply.ok) xform_Quarter.ok) xform_Exact.ok) xform_One.ok) xform_Check.ok) xform_Then_1.ok) xform_dot_1.ok) xform_turn_1.ok) (deep_none _) Try.func17 (by kernel_rfl) (sok_fn trivial) (by kernel_rfl) (fun x => by kernel_rfl)
end Go.Proofs.Pen

namespace Go.Proofs.Pen
open Go Go.Proofs
noncomputable def ref46_by.t (x : (Int × Int × Int) × (Int × Int × Int)) : T (Int) := T.ret (W (W (W (x.1.1 * x.2.1) + W (x.1.2.1 * x.2.2.1)) + W (x.1.2.2 * x.2.2.2)))
noncomputable def ref46_by.q : List AV → T AV := entry [TPoint, TPoint] (outR [TI]) ref46_by.t
theorem ref46_by.ok : FnOK Try.prog 61 ref46_by.q :=
  entry_in (ps := [TPoint, TPoint]) (rs := [TI]) (F := (⟨noQ, noDeep⟩ : Fns)) (D := D0) (S := tabS []) (t := ref46_by.t) mixed (quiet_none _) (deep_none _) Try.func61 (by kernel_rfl) (sok_fn trivial) (by kernel_rfl) (fun x => by kernel_rfl)
end Go.Proofs.Pen

namespace Go.Proofs.Pen
open Go Go.Proofs
noncomputable def ref46_down.t (x : Int) : T (Int) := T.ite (decide (Int.tmod x 1024 < 0)) (T.ret (W (W (Int.tdiv x 1024) - 1))) (T.ret (W (Int.tdiv x 1024)))
noncomputable def ref46_down (x : Int) : Option (Int) := (ref46_down.t x).run
noncomputable def ref46_down.q : List AV → T AV := entry [TI] (outR [TI]) fun x => .opt (ref46_down x) .ret
theorem ref46_down.ok : FnOK Try.prog 60 ref46_down.q :=
  entry_call (ps := [TI]) (rs := [TI]) (F := (⟨noQ, noDeep⟩ : Fns)) (D := D0) (S := tabS []) (t := ref46_down.t) mixed (quiet_none _) (deep_none _) Try.func60 (by kernel_rfl) (sok_fn trivial) (by kernel_rfl) (fun x => by kernel_rfl)
end Go.Proofs.Pen

namespace Go.Proofs.Pen
open Go Go.Proofs
noncomputable def ref46_Apply.t (x : ((Int × Int × Int) × (Int × Int × Int) × (Int × Int × Int) × Int × Int × Int) × (Int × Int × Int)) : T ((Int × Int × Int)) := T.opt (ref46_down (W (W (W (x.1.1.1 * x.2.1) + W (x.1.1.2.1 * x.2.2.1)) + W (x.1.1.2.2 * x.2.2.2)))) fun y => T.opt (ref46_down (W (W (W (x.1.2.1.1 * x.2.1) + W (x.1.2.1.2.1 * x.2.2.1)) + W (x.1.2.1.2.2 * x.2.2.2)))) fun y_1 => T.opt (ref46_down (W (W (W (x.1.2.2.1.1 * x.2.1) + W (x.1.2.2.1.2.1 * x.2.2.1)) + W (x.1.2.2.1.2.2 * x.2.2.2)))) fun y_2 => T.ret (W (y + x.1.2.2.2.1), W (y_1 + x.1.2.2.2.2.1), W (y_2 + x.1.2.2.2.2.2))
noncomputable def ref46_Apply (x : ((Int × Int × Int) × (Int × Int × Int) × (Int × Int × Int) × Int × Int × Int) × (Int × Int × Int)) : Option ((Int × Int × Int)) := (ref46_Apply.t x).run
noncomputable def ref46_Apply.q : List AV → T AV := entry [TMove, TPoint] (outR [TPoint]) fun x => .opt (ref46_Apply x) .ret
theorem ref46_Apply.ok : FnOK Try.prog 19 ref46_Apply.q :=
  entry_call (ps := [TMove, TPoint]) (rs := [TPoint]) (F := (⟨(ext (ext noQ 61 ref46_by.q) 60 ref46_down.q), noDeep⟩ : Fns)) (D := D0) (S := tabS []) (t := ref46_Apply.t) mixed (quiet_ext (quiet_ext (quiet_none _) ref46_by.ok) ref46_down.ok) (deep_none _) Try.func19 (by kernel_rfl) (sok_fn trivial) (by kernel_rfl) (fun x => by kernel_rfl)
end Go.Proofs.Pen

namespace Go.Proofs.Pen
open Go Go.Proofs
noncomputable def law46_XformThen.t (x : ((Int × Int × Int) × (Int × Int × Int) × (Int × Int × Int) × Int × Int × Int) × ((Int × Int × Int) × (Int × Int × Int) × (Int × Int × Int) × Int × Int × Int) × (Int × Int × Int)) : T (Bool) := T.opt (xform_Then (x.1, x.2.1)) fun y => T.opt (ref46_Exact x.1) fun y_1 => T.ite (!y_1) (T.opt (law46_awake ()) fun y_2 => T.ite y_2 (T.ret (y.1.1.1 == 0 && (y.1.1.2.1 == 0 && y.1.1.2.2 == 0) && (y.1.2.1.1 == 0 && (y.1.2.1.2.1 == 0 && y.1.2.1.2.2 == 0) && (y.1.2.2.1.1 == 0 && (y.1.2.2.1.2.1 == 0 && y.1.2.2.1.2.2 == 0) && (y.1.2.2.2.1 == 0 && (y.1.2.2.2.2.1 == 0 && y.1.2.2.2.2.2 == 0)))) && y.2 == 3)) (T.ret false)) (T.opt (ref46_Exact x.2.1) fun y_2 => T.ite (!y_2) (T.opt (law46_awake ()) fun y_3 => T.ite y_3 (T.ret (y.1.1.1 == 0 && (y.1.1.2.1 == 0 && y.1.1.2.2 == 0) && (y.1.2.1.1 == 0 && (y.1.2.1.2.1 == 0 && y.1.2.1.2.2 == 0) && (y.1.2.2.1.1 == 0 && (y.1.2.2.1.2.1 == 0 && y.1.2.2.1.2.2 == 0) && (y.1.2.2.2.1 == 0 && (y.1.2.2.2.2.1 == 0 && y.1.2.2.2.2.2 == 0)))) && y.2 == 3)) (T.ret false)) (T.ite (y.2 != 0) (T.opt (law46_awake ()) fun y_3 => T.ite (y_3 && y.2 == 3) (T.ret (y.1.1.1 == 0 && (y.1.1.2.1 == 0 && y.1.1.2.2 == 0) && (y.1.2.1.1 == 0 && (y.1.2.1.2.1 == 0 && y.1.2.1.2.2 == 0) && (y.1.2.2.1.1 == 0 && (y.1.2.2.1.2.1 == 0 && y.1.2.2.1.2.2 == 0) && (y.1.2.2.2.1 == 0 && (y.1.2.2.2.2.1 == 0 && y.1.2.2.2.2.2 == 0)))))) (T.ret false)) (T.ite (!(decide (x.2.2.1 ≥ -1048576) && decide (x.2.2.1 ≤ 1048576) && decide (x.2.2.2.1 ≥ -1048576) && decide (x.2.2.2.1 ≤ 1048576) && decide (x.2.2.2.2 ≥ -1048576) && decide (x.2.2.2.2 ≤ 1048576))) (T.opt (law46_awake ()) fun y_3 => T.ite y_3 (T.opt (ref46_Exact y.1) fun y => T.ret y) (T.ret false)) (T.opt (ref46_Apply x.2) fun y_3 => T.ite (!(decide (y_3.fst ≥ -1048576) && decide (y_3.fst ≤ 1048576) && decide (y_3.snd.fst ≥ -1048576) && decide (y_3.snd.fst ≤ 1048576) && decide (y_3.snd.snd ≥ -1048576) && decide (y_3.snd.snd ≤ 1048576))) (T.opt (law46_awake ()) fun y => T.ret y) (T.opt (law46_awake ()) fun y_4 => T.ite y_4 (T.opt (ref46_Exact y.1) fun y_5 => T.ite y_5 (T.opt (ref46_Apply (y.1, x.2.2)) fun y => T.opt (ref46_Apply (x.1, y_3)) fun y_6 => T.ret (y.1 == y_6.fst && (y.2.1 == y_6.snd.fst && y.2.2 == y_6.snd.snd))) (T.ret false)) (T.ret false))))))
noncomputable def law46_XformThen (x : ((Int × Int × Int) × (Int × Int × Int) × (Int × Int × Int) × Int × Int × Int) × ((Int × Int × Int) × (Int × Int × Int) × (Int × Int × Int) × Int × Int × Int) × (Int × Int × Int)) : Option (Bool) := (law46_XformThen.t x).run
noncomputable def law46_XformThen.q : List AV → T AV := entry [TMove, TMove, TPoint] (outR [.bool]) fun x => .opt (law46_XformThen x) .ret
theorem law46_XformThen.ok : FnOK Try.prog 3 law46_XformThen.q :=
  entry_call (ps := [TMove, TMove, TPoint]) (rs := [.bool]) (F := (⟨(ext (ext (ext (ext (ext (ext (ext (ext noQ 15 xform_Then.q) 16 ref46_Exact.q) 17 law46_awake.q) 18 ref22_In.q) 19 ref46_Apply.q) 58 xform_Then_1.q) 78 xform_dot_1.q) 79 xform_turn_1.q), noDeep⟩ : Fns)) (D := D0) (S := tabS []) (t := law46_XformThen.t) mixed (quiet_ext (quiet_ext (quiet_ext (quiet_ext (quiet_ext (quiet_ext (quiet_ext (quiet_ext (quiet_none _) xform_Then.ok) ref46_Exact.ok) law46_awake.ok) ref22_In.ok) ref46_Apply.ok) xform_Then_1.ok) xform_dot_1.ok) xform_turn_1.ok) (deep_none _) Try.func3 (by kernel_rfl) (sok_fn trivial) (by kernel_rfl) (fun x => by kernel_rfl)
end Go.Proofs.Pen

namespace Go.Proofs.Pen
open Go Go.Proofs
def law46_XformTurns.L0 : List (Nat × Lay) := [(0, .val TI), (5, .box TPoint), (7, .box TMove), (9, .box TPoint), (10, .val TI), (11, .val TI)]
noncomputable def law46_XformTurns.t0 (x : Int × (Int × Int × Int) × ((Int × Int × Int) × (Int × Int × Int) × (Int × Int × Int) × Int × Int × Int) × (Int × Int × Int) × Int × Int × Unit) : T (Ex × Int × (Int × Int × Int) × ((Int × Int × Int) × (Int × Int × Int) × (Int × Int × Int) × Int × Int × Int) × (Int × Int × Int) × Int × Int × Unit) := T.ite (decide (x.2.2.2.2.2.1 < x.2.2.2.2.1)) (T.ite (x.1 == 0) (T.ret (Ex.normal, x.1, x.2.1, x.2.2.1, (x.2.2.2.1.1, W (0 - x.2.2.2.1.2.2), x.2.2.2.1.2.1), x.2.2.2.2.1, W (x.2.2.2.2.2.1 + 1), ())) (T.ite (x.1 == 1) (T.ret (Ex.normal, x.1, x.2.1, x.2.2.1, (x.2.2.2.1.2.2, x.2.2.2.1.2.1, W (0 - x.2.2.2.1.1)), x.2.2.2.2.1, W (x.2.2.2.2.2.1 + 1), ())) (T.ite (x.1 == 2) (T.ret (Ex.normal, x.1, x.2.1, x.2.2.1, (W (0 - x.2.2.2.1.2.1), x.2.2.2.1.1, x.2.2.2.1.2.2), x.2.2.2.2.1, W (x.2.2.2.2.2.1 + 1), ())) (T.ret (Ex.normal, x.1, x.2.1, x.2.2.1, x.2.2.2.1, x.2.2.2.2.1, W (x.2.2.2.2.2.1 + 1), ()))))) (T.ret (Ex.exit 0, x.1, x.2.1, x.2.2.1, x.2.2.2.1, x.2.2.2.2.1, x.2.2.2.2.2.1, ()))
noncomputable def law46_XformTurns.l0 (x : Int × (Int × Int × Int) × ((Int × Int × Int) × (Int × Int × Int) × (Int × Int × Int) × Int × Int × Int) × (Int × Int × Int) × Int × Int × Unit) : Option (Ex × Int × (Int × Int × Int) × ((Int × Int × Int) × (Int × Int × Int) × (Int × Int × Int) × Int × Int × Int) × (Int × Int × Int) × Int × Int × Unit) := (iterT law46_XformTurns.t0 rounds x).run
theorem law46_XformTurns.k0 : bodies 0 (lp Try.f4 []) = [.loop (loopIn 0 (lp Try.f4 []))] ∧ WP Try.prog 0 (.block 0 (.loop (loopIn 0 (lp Try.f4 [])))) (loopS law46_XformTurns.L0 113 0 [.exit 0] law46_XformTurns.l0) :=
  loop_tree (L := law46_XformTurns.L0) (F := (⟨(ext (ext (ext (ext (ext (ext (ext (ext noQ 20 xform_Quarter.q) 17 law46_awake.q) 18 ref22_In.q) 19 ref46_Apply.q) 21 xform_One.q) 58 xform_Then_1.q) 78 xform_dot_1.q) 79 xform_turn_1.q), noDeep⟩ : Fns)) (D := D0) (tab := []) (t := law46_XformTurns.t0) mixed (quiet_ext (quiet_ext (quiet_ext (quiet_ext (quiet_ext (quiet_ext (quiet_ext (quiet_ext (quiet_none _) xform_Quarter.ok) law46_awake.ok) ref22_In.ok) ref46_Apply.ok) xform_One.ok) xform_Then_1.ok) xform_dot_1.ok) xform_turn_1.ok) (deep_none _) (fun _ => rfl) (by kernel_rfl) (by kernel_rfl) trivial (fun x => by kernel_rfl)
noncomputable def law46_XformTurns.t (x : Int × Int × (Int × Int × Int)) : T (Bool) := T.opt (xform_Quarter (x.1, x.2.1)) fun y => T.ite (decide (x.1 < 0) || decide (x.1 > 2)) (T.opt (law46_awake ()) fun y_1 => T.ite y_1 (T.ret (y.1.1.1 == 0 && (y.1.1.2.1 == 0 && y.1.1.2.2 == 0) && (y.1.2.1.1 == 0 && (y.1.2.1.2.1 == 0 && y.1.2.1.2.2 == 0) && (y.1.2.2.1.1 == 0 && (y.1.2.2.1.2.1 == 0 && y.1.2.2.1.2.2 == 0) && (y.1.2.2.2.1 == 0 && (y.1.2.2.2.2.1 == 0 && y.1.2.2.2.2.2 == 0)))) && y.2 == 2)) (T.ret false)) (T.ite (y.2 != 0) (T.ite (y.2 == 0) (T.opt (law46_awake ()) fun y => T.ret y) (T.ret false)) (T.ite (!(decide (x.2.2.1 ≥ -1048576) && decide (x.2.2.1 ≤ 1048576) && decide (x.2.2.2.1 ≥ -1048576) && decide (x.2.2.2.1 ≤ 1048576) && decide (x.2.2.2.2 ≥ -1048576) && decide (x.2.2.2.2 ≤ 1048576))) (T.ite (y.2 == 0) (T.opt (law46_awake ()) fun y => T.ret y) (T.ret false)) (T.ite (decide (Int.tmod x.2.1 4 < 0)) (T.opt (law46_XformTurns.l0 (x.1, x.2.2, y.1, x.2.2, W (Int.tmod x.2.1 4 + 4), 0, ())) fun y => T.ite (exEq y.1 (Ex.exit 0)) (T.opt (xform_Quarter (y.2.1, 4)) fun y_1 => T.opt (law46_awake ()) fun y_2 => T.ite y_2 (T.opt (ref46_Apply (y.2.2.2.1, y.2.2.1)) fun y_3 => T.ite (y_3.fst == y.2.2.2.2.1.1 && (y_3.snd.fst == y.2.2.2.2.1.2.1 && y_3.snd.snd == y.2.2.2.2.1.2.2) && y_1.snd == 0) (T.ret (y_1.fst.fst.fst == 1024 && (y_1.fst.fst.snd.fst == 0 && y_1.fst.fst.snd.snd == 0) && (y_1.fst.snd.fst.fst == 0 && (y_1.fst.snd.fst.snd.fst == 1024 && y_1.fst.snd.fst.snd.snd == 0) && (y_1.fst.snd.snd.fst.fst == 0 && (y_1.fst.snd.snd.fst.snd.fst == 0 && y_1.fst.snd.snd.fst.snd.snd == 1024) && (y_1.fst.snd.snd.snd.fst == 0 && (y_1.fst.snd.snd.snd.snd.fst == 0 && y_1.fst.snd.snd.snd.snd.snd == 0)))))) (T.ret false)) (T.ret false)) T.fail) (T.opt (law46_XformTurns.l0 (x.1, x.2.2, y.1, x.2.2, Int.tmod x.2.1 4, 0, ())) fun y => T.ite (exEq y.1 (Ex.exit 0)) (T.opt (xform_Quarter (y.2.1, 4)) fun y_1 => T.opt (law46_awake ()) fun y_2 => T.ite y_2 (T.opt (ref46_Apply (y.2.2.2.1, y.2.2.1)) fun y_3 => T.ite (y_3.fst == y.2.2.2.2.1.1 && (y_3.snd.fst == y.2.2.2.2.1.2.1 && y_3.snd.snd == y.2.2.2.2.1.2.2) && y_1.snd == 0) (T.ret (y_1.fst.fst.fst == 1024 && (y_1.fst.fst.snd.fst == 0 && y_1.fst.fst.snd.snd == 0) && (y_1.fst.snd.fst.fst == 0 && (y_1.fst.snd.fst.snd.fst == 1024 && y_1.fst.snd.fst.snd.snd == 0) && (y_1.fst.snd.snd.fst.fst == 0 && (y_1.fst.snd.snd.fst.snd.fst == 0 && y_1.fst.snd.snd.fst.snd.snd == 1024) && (y_1.fst.snd.snd.snd.fst == 0 && (y_1.fst.snd.snd.snd.snd.fst == 0 && y_1.fst.snd.snd.snd.snd.snd == 0)))))) (T.ret false)) (T.ret false)) T.fail))))
noncomputable def law46_XformTurns (x : Int × Int × (Int × Int × Int)) : Option (Bool) := (law46_XformTurns.t x).run
noncomputable def law46_XformTurns.q : List AV → T AV := entry [TI, TI, TPoint] (outR [.bool]) fun x => .opt (law46_XformTurns x) .ret
theorem law46_XformTurns.ok : FnOK Try.prog 4 law46_XformTurns.q :=
  entry_call (ps := [TI, TI, TPoint]) (rs := [.bool]) (F := (⟨(ext (ext (ext (ext (ext (ext (ext (ext noQ 20 xform_Quarter.q) 17 law46_awake.q) 18 ref22_In.q) 19 ref46_Apply.q) 21 xform_One.q) 58 xform_Then_1.q) 78 xform_dot_1.q) 79 xform_turn_1.q), noDeep⟩ : Fns)) (D := D0) (S := tabS [(0, loopS law46_XformTurns.L0 113 0 [.exit 0] law46_XformTurns.l0)]) (t := law46_XformTurns.t) mixed (quiet_ext (quiet_ext (quiet_ext (quiet_ext (quiet_ext (quiet_ext (quiet_ext (quiet_ext (quiet_none _) xform_Quarter.ok) law46_awake.ok) ref22_In.ok) ref46_Apply.ok) xform_One.ok) xform_Then_1.ok) xform_dot_1.ok) xform_turn_1.ok) (deep_none _) Try.func4 (by kernel_rfl) (sok_fn ⟨law46_XformTurns.k0, trivial⟩) (by kernel_rfl) (fun x => by kernel_rfl)
end Go.Proofs.Pen

namespace Go.Proofs.Pen
open Go Go.Proofs
noncomputable def xform_Shift.t (x : (Int × Int × Int)) : T (((Int × Int × Int) × (Int × Int × Int) × (Int × Int × Int) × Int × Int × Int)) := T.ret ((1024, 0, 0), (0, 1024, 0), (0, 0, 1024), x)
noncomputable def xform_Shift.q : List AV → T AV := entry [TPoint] (outR [TMove]) xform_Shift.t
theorem xform_Shift.ok : FnOK Try.prog 27 xform_Shift.q :=
  entry_in (ps := [TPoint]) (rs := [TMove]) (F := (⟨(ext noQ 21 xform_One.q), noDeep⟩ : Fns)) (D := D0) (S := tabS []) (t := xform_Shift.t) mixed (quiet_ext (quiet_none _) xform_One.ok) (deep_none _) Try.func27 (by kernel_rfl) (sok_fn trivial) (by kernel_rfl) (fun x => by kernel_rfl)
end Go.Proofs.Pen

namespace Go.Proofs.Pen
open Go Go.Proofs
noncomputable def law46_XformMoves.t (x : ((Int × Int × Int) × (Int × Int × Int) × (Int × Int × Int) × Int × Int × Int) × (Int × Int × Int) × Int) : T (Bool) := T.opt (xform_Apply (x.1, x.2.1)) fun y => T.opt (xform_Check x.1) fun y_1 => T.opt (ref46_Right x.1) fun y_2 => T.ite (!(y_1 == 0) == y_2) (T.ret false) (T.opt (xform_Exact x.1) fun y_3 => T.opt (ref46_Exact x.1) fun y_4 => T.ite (!y_3 == y_4) (T.ret false) (T.ite (!(x.2.2 == x.2.2 && (0 == 0 && 0 == 0) && (0 == 0 && (x.2.2 == x.2.2 && 0 == 0) && (0 == 0 && (0 == 0 && x.2.2 == x.2.2) && (0 == 0 && (0 == 0 && 0 == 0)))))) (T.ret false) (T.ite (!(x.2.1.1 == x.2.1.1 && (x.2.1.2.1 == x.2.1.2.1 && x.2.1.2.2 == x.2.1.2.2))) (T.ret false) (T.ite (!(1024 == 1024 && (0 == 0 && 0 == 0) && (0 == 0 && (1024 == 1024 && 0 == 0) && (0 == 0 && (0 == 0 && 1024 == 1024) && (0 == 0 && (0 == 0 && 0 == 0)))))) (T.ret false) (T.opt (ref46_Right x.1) fun y_5 => T.ite (!y_5) (T.opt (law46_awake ()) fun y_6 => T.ite y_6 (T.ret (y.1.1 == 0 && (y.1.2.1 == 0 && y.1.2.2 == 0) && y.2 == 3)) (T.ret false)) (T.ite (!(decide (x.2.1.1 ≥ -1048576) && decide (x.2.1.1 ≤ 1048576) && decide (x.2.1.2.1 ≥ -1048576) && decide (x.2.1.2.1 ≤ 1048576) && decide (x.2.1.2.2 ≥ -1048576) && decide (x.2.1.2.2 ≤ 1048576))) (T.opt (law46_awake ()) fun y_6 => T.ite y_6 (T.ret (y.1.1 == 0 && (y.1.2.1 == 0 && y.1.2.2 == 0) && y.2 == 3)) (T.ret false)) (T.opt (law46_awake ()) fun y_6 => T.ite y_6 (T.opt (ref46_Apply (x.1, x.2.1)) fun y_7 => T.ret (y.1.1 == y_7.fst && (y.1.2.1 == y_7.snd.fst && y.1.2.2 == y_7.snd.snd) && y.2 == 0)) (T.ret false))))))))
noncomputable def law46_XformMoves (x : ((Int × Int × Int) × (Int × Int × Int) × (Int × Int × Int) × Int × Int × Int) × (Int × Int × Int) × Int) : Option (Bool) := (law46_XformMoves.t x).run
noncomputable def law46_XformMoves.q : List AV → T AV := entry [TMove, TPoint, TI] (outR [.bool]) fun x => .opt (law46_XformMoves x) .ret
theorem law46_XformMoves.ok : FnOK Try.prog 5 law46_XformMoves.q :=
  entry_call (ps := [TMove, TPoint, TI]) (rs := [.bool]) (F := (⟨(ext (ext (ext (ext (ext (ext (ext (ext (ext (ext (ext (ext (ext (ext noQ 22 xform_Apply.q) 23 xform_Check.q) 24 ref46_Right.q) 25 xform_Exact.q) 16 ref46_Exact.q) 26 xform_Scale.q) 27 xform_Shift.q) 21 xform_One.q) 18 ref22_In.q) 17 law46_awake.q) 19 ref46_Apply.q) 58 xform_Then_1.q) 78 xform_dot_1.q) 79 xform_turn_1.q), noDeep⟩ : Fns)) (D := D0) (S := tabS []) (t := law46_XformMoves.t) mixed (quiet_ext (quiet_ext (quiet_ext (quiet_ext (quiet_ext (quiet_ext (quiet_ext (quiet_ext (quiet_ext (quiet_ext (quiet_ext (quiet_ext (quiet_ext (quiet_ext (quiet_none _) xform_Apply.ok) xform_Check.ok) ref46_Right.ok) xform_Exact.ok) ref46_Exact.ok) xform_Scale.ok) xform_Shift.ok) xform_One.ok) ref22_In.ok) law46_awake.ok) ref46_Apply.ok) xform_Then_1.ok) xform_dot_1.ok) xform_turn_1.ok) (deep_none _) Try.func5 (by kernel_rfl) (sok_fn trivial) (by kernel_rfl) (fun x => by kernel_rfl)
end Go.Proofs.Pen

namespace Go.Proofs.Pen
open Go Go.Proofs

abbrev P3 := Int × Int × Int
abbrev Mv := P3 × P3 × P3 × P3

def bd (k : Int) (p : P3) : Prop := -k ≤ p.1 ∧ p.1 ≤ k ∧ -k ≤ p.2.1 ∧ p.2.1 ≤ k ∧ -k ≤ p.2.2 ∧ p.2.2 ≤ k
instance (k : Int) (p : P3) : Decidable (bd k p) := by unfold bd; infer_instance
def right (m : Mv) : Prop := bd 4096 m.1 ∧ bd 4096 m.2.1 ∧ bd 4096 m.2.2.1 ∧ bd 1048576 m.2.2.2
instance (m : Mv) : Decidable (right m) := by unfold right; infer_instance

theorem min3_max3 (x y z k : Int) (h0 : 0 ≤ k) (hk : k ≤ 1048576) :
    (decide ((if z < (if y < x then y else x) then z else if y < x then y else x) ≥ W (0 - k)) && decide ((if z > (if y > x then y else x) then z else if y > x then y else x) ≤ k)) = decide (bd k (x, y, z)) := by
  rw [W_id (by omega) (by omega), ← Bool.decide_and]
  apply decide_eq_decide.2
  unfold bd
  dsimp only
  repeat' split
  all_goals omega

theorem Check_eq (m : Mv) : xform_Check m = some (if right m then 0 else 3) := by
  obtain ⟨⟨a, b, c⟩, ⟨d, e, f⟩, ⟨g, h, i⟩, j, k, l⟩ := m
  unfold xform_Check xform_Check.t
  dsimp only
  rw [min3_max3 a b c 4096 (by decide) (by decide), min3_max3 d e f 4096 (by decide) (by decide), min3_max3 g h i 4096 (by decide) (by decide), min3_max3 j k l 1048576 (by decide) (by decide)]
  simp only [tr_ite, tr_ret, right]
  by_cases h1 : bd 4096 (a, b, c) <;> by_cases h2 : bd 4096 (d, e, f) <;> by_cases h3 : bd 4096 (g, h, i) <;> by_cases h4 : bd 1048576 (j, k, l) <;> simp [h1, h2, h3, h4]

theorem Right_eq (m : Mv) : ref46_Right m = some (decide (right m)) := by
  obtain ⟨⟨a, b, c⟩, ⟨d, e, f⟩, ⟨g, h, i⟩, j, k, l⟩ := m
  unfold ref46_Right ref46_Right.t
  simp only [tr_ite, tr_ret, right, bd, ← Bool.decide_and, decide_eq_true_eq]
  split
  · split
    · split
      · congr 1; apply decide_eq_decide.2; omega
      · congr 1; symm; apply decide_eq_false; omega
    · congr 1; symm; apply decide_eq_false; omega
  · congr 1; symm; apply decide_eq_false; omega

def m1024 (p : P3) : Prop := p.1.tmod 1024 = 0 ∧ p.2.1.tmod 1024 = 0 ∧ p.2.2.tmod 1024 = 0
instance (p : P3) : Decidable (m1024 p) := by unfold m1024; infer_instance
def exact (m : Mv) : Prop := right m ∧ m1024 m.1 ∧ m1024 m.2.1 ∧ m1024 m.2.2.1
instance (m : Mv) : Decidable (exact m) := by unfold exact; infer_instance

theorem whole_eq (p : P3) : ref46_whole p = some (decide (m1024 p)) := by
  obtain ⟨a, b, c⟩ := p
  unfold ref46_whole ref46_whole.t
  simp only [tr_ite, tr_ret, m1024, beq_iff_eq]
  split
  · split
    · congr 1; rw [Bool.eq_iff_iff]; simp [*]
    · congr 1; symm; apply decide_eq_false; omega
  · congr 1; symm; apply decide_eq_false; omega

theorem RExact_eq (m : Mv) : ref46_Exact m = some (decide (exact m)) := by
  obtain ⟨p, q, s, t⟩ := m
  unfold ref46_Exact ref46_Exact.t
  simp only [tr_ite, tr_ret, tr_opt, Right_eq, whole_eq, Option.bind_some, exact, decide_eq_true_eq]
  by_cases h1 : right (p, q, s, t) <;> by_cases h2 : m1024 p <;> by_cases h3 : m1024 q <;> by_cases h4 : m1024 s <;> simp [h1, h2, h3, h4]

/-- One row's test. -/
theorem row_eq (p : P3) (h : bd 4096 p) : (p.1 == W (W (Int.tdiv p.1 1024) * 1024) && (p.2.1 == W (W (Int.tdiv p.2.1 1024) * 1024) && p.2.2 == W (W (Int.tdiv p.2.2 1024) * 1024))) = decide (m1024 p) := by
  obtain ⟨a, b, c⟩ := p
  simp only [bd] at h
  have ha := tdv a (k := 1024) (by decide)
  have hb := tdv b (k := 1024) (by decide)
  have hc := tdv c (k := 1024) (by decide)
  dsimp only
  rw [W_id (n := a.tdiv 1024) (by omega) (by omega), W_id (n := b.tdiv 1024) (by omega) (by omega), W_id (n := c.tdiv 1024) (by omega) (by omega),
    W_id (by omega) (by omega), W_id (by omega) (by omega), W_id (by omega) (by omega), Bool.eq_iff_iff]
  rw [decide_eq_true_iff]
  simp only [Bool.and_eq_true, beq_iff_eq]
  unfold m1024
  dsimp only
  refine and_congr ?_ (and_congr ?_ ?_) <;> constructor <;> intro h <;> omega

theorem Exact_l0 (p q s : P3) (hp : bd 4096 p) (hq : bd 4096 q) (hs : bd 4096 s) :
    xform_Exact.l0 (false, [p, q, s], 3, 0, ()) = some (if m1024 p ∧ m1024 q ∧ m1024 s then (Ex.exit 0, false, [p, q, s], 3, 3, ()) else (Ex.ret, false, [p, q, s], 3, (if m1024 p then if m1024 q then 2 else 1 else 0), ())) := by
  have hr : rounds = 18446744073709551612 + 4 := rfl
  have w1 : W (0 + 1) = 1 := by rw [W_id] <;> omega
  have w2 : W (1 + 1) = 2 := by rw [W_id] <;> omega
  have w3 : W (2 + 1) = 3 := by rw [W_id] <;> omega
  have s0 : (xform_Exact.t0 (false, [p, q, s], 3, 0, ())).run = some (if m1024 p then (Ex.normal, false, [p, q, s], 3, 1, ()) else (Ex.ret, false, [p, q, s], 3, 0, ())) := by
    unfold xform_Exact.t0
    simp only [tr_ite, tr_ret, tr_opt]
    rw [if_pos (by simp), if_pos (by simp)]
    show ((some p).bind _) = _
    rw [Option.bind_some, row_eq p hp, w1]
    by_cases h : m1024 p <;> simp [h]
  have s1 : (xform_Exact.t0 (false, [p, q, s], 3, 1, ())).run = some (if m1024 q then (Ex.normal, false, [p, q, s], 3, 2, ()) else (Ex.ret, false, [p, q, s], 3, 1, ())) := by
    unfold xform_Exact.t0
    simp only [tr_ite, tr_ret, tr_opt]
    rw [if_pos (by simp), if_pos (by simp)]
    show ((some q).bind _) = _
    rw [Option.bind_some, row_eq q hq, w2]
    by_cases h : m1024 q <;> simp [h]
  have s2 : (xform_Exact.t0 (false, [p, q, s], 3, 2, ())).run = some (if m1024 s then (Ex.normal, false, [p, q, s], 3, 3, ()) else (Ex.ret, false, [p, q, s], 3, 2, ())) := by
    unfold xform_Exact.t0
    simp only [tr_ite, tr_ret, tr_opt]
    rw [if_pos (by simp), if_pos (by simp)]
    show ((some s).bind _) = _
    rw [Option.bind_some, row_eq s hs, w3]
    by_cases h : m1024 s <;> simp [h]
  have s3 : (xform_Exact.t0 (false, [p, q, s], 3, 3, ())).run = some (Ex.exit 0, false, [p, q, s], 3, 3, ()) := by
    unfold xform_Exact.t0
    simp only [tr_ite, tr_ret, tr_opt]
    simp
  unfold xform_Exact.l0
  rw [hr]
  by_cases h0 : m1024 p
  · simp only [h0, if_true] at s0
    rw [iter_step s0]
    dsimp only
    by_cases h1 : m1024 q
    · simp only [h1, if_true] at s1
      rw [iter_step s1]
      dsimp only
      by_cases h2 : m1024 s
      · simp only [h2, if_true] at s2
        rw [iter_step s2]
        dsimp only
        rw [iter_step s3]
        simp [h0, h1, h2]
      · simp only [h2, if_false] at s2
        rw [iter_step s2]
        simp [h0, h1, h2]
    · simp only [h1, if_false] at s1
      rw [iter_step s1]
      simp [h0, h1]
  · simp only [h0, if_false] at s0
    rw [iter_step s0]
    simp [h0]

theorem Exact_eq (m : Mv) : xform_Exact m = some (decide (exact m)) := by
  obtain ⟨p, q, s, t⟩ := m
  unfold xform_Exact xform_Exact.t
  simp only [tr_ite, tr_ret, tr_opt, Check_eq, Option.bind_some]
  by_cases h : right (p, q, s, t)
  · have h' := h
    simp only [right] at h'
    have e3 : ((3 : Nat) : Int) = 3 := rfl
    simp only [h, if_true, List.take, Exact_l0 p q s h'.1 h'.2.1 h'.2.2.1, exact]
    by_cases h0 : m1024 p <;> by_cases h1 : m1024 q <;> by_cases h2 : m1024 s <;> simp [h0, h1, h2, exEq]
  · simp [h, exact]

/-! ### Points that are moved -/
def dot (r p : P3) : Int := r.1 * p.1 + r.2.1 * p.2.1 + r.2.2 * p.2.2

theorem dot_bd {r p : P3} {k n : Int} (h1 : bd k r) (h2 : bd n p) : -(3 * (k * n)) ≤ dot r p ∧ dot r p ≤ 3 * (k * n) := by
  unfold bd at h1 h2
  have a := mul_bd h1.1 h1.2.1 h2.1 h2.2.1
  have b := mul_bd h1.2.2.1 h1.2.2.2.1 h2.2.2.1 h2.2.2.2.1
  have c := mul_bd h1.2.2.2.2.1 h1.2.2.2.2.2 h2.2.2.2.2.1 h2.2.2.2.2.2
  unfold dot
  omega

theorem wdot {r p : P3} (h1 : bd 4096 r) (h2 : bd 1048576 p) : W (W (W (r.1 * p.1) + W (r.2.1 * p.2.1)) + W (r.2.2 * p.2.2)) = dot r p := by
  unfold bd at h1 h2
  have a := mul_bd h1.1 h1.2.1 h2.1 h2.2.1
  have b := mul_bd h1.2.2.1 h1.2.2.2.1 h2.2.2.1 h2.2.2.2.1
  have c := mul_bd h1.2.2.2.2.1 h1.2.2.2.2.2 h2.2.2.2.2.1 h2.2.2.2.2.2
  unfold dot
  rw [W_id (n := r.1 * p.1) (by omega) (by omega), W_id (n := r.2.1 * p.2.1) (by omega) (by omega), W_id (n := r.2.2 * p.2.2) (by omega) (by omega), W_id (n := r.1 * p.1 + r.2.1 * p.2.1) (by omega) (by omega), W_id (by omega) (by omega)]

theorem wdot' {r p : P3} (h1 : bd 4096 r) (h2 : bd 4096 p) : W (W (W (r.1 * p.1) + W (r.2.1 * p.2.1)) + W (r.2.2 * p.2.2)) = dot r p :=
  wdot h1 (by unfold bd at h2 ⊢; omega)

theorem sh10 (n : Int) : n.fdiv (2 ^ min (Int.toNat 10) IntKind.i64.bits) = n / 1024 := by
  have : (2 : Int) ^ min (Int.toNat 10) IntKind.i64.bits = 1024 := rfl
  rw [this, fdiv_pos _ (by decide)]

theorem dot_1_eq {r p : P3} (h1 : bd 4096 r) (h2 : bd 1048576 p) : xform_dot_1 (r, p) = some (dot r p / 1024) := by
  unfold xform_dot_1 xform_dot_1.t
  rw [tr_ite, if_neg (by decide), tr_ret]
  dsimp only
  rw [sh10, wdot h1 h2]

def app (m : Mv) (p : P3) : P3 := (dot m.1 p / 1024 + m.2.2.2.1, dot m.2.1 p / 1024 + m.2.2.2.2.1, dot m.2.2.1 p / 1024 + m.2.2.2.2.2)

theorem app_w {m : Mv} {p : P3} (h : right m) (hp : bd 1048576 p) : W (dot m.1 p / 1024 + m.2.2.2.1) = (app m p).1 ∧ W (dot m.2.1 p / 1024 + m.2.2.2.2.1) = (app m p).2.1 ∧ W (dot m.2.2.1 p / 1024 + m.2.2.2.2.2) = (app m p).2.2 := by
  have a := dot_bd h.1 hp
  have b := dot_bd h.2.1 hp
  have c := dot_bd h.2.2.1 hp
  have d := h.2.2.2
  unfold bd at d
  unfold app
  refine ⟨W_id ?_ ?_, W_id ?_ ?_, W_id ?_ ?_⟩ <;> omega

theorem Apply_eq (m : Mv) (p : P3) : xform_Apply (m, p) = some (if right m ∧ bd 1048576 p then (app m p, 0) else ((0, 0, 0), 3)) := by
  obtain ⟨x, y, z, t⟩ := m
  obtain ⟨a, b, c⟩ := p
  unfold xform_Apply xform_Apply.t
  simp only [tr_ite, tr_ret, tr_opt, Check_eq, Option.bind_some]
  rw [min3_max3 a b c 1048576 (by decide) (by decide)]
  by_cases h : right (x, y, z, t)
  · by_cases hp : bd 1048576 (a, b, c)
    · have h' := h
      unfold right at h'
      obtain ⟨e1, e2, e3⟩ := app_w h hp
      dsimp only at h' e1 e2 e3
      simp only [h, hp, if_true, dot_1_eq h'.1 hp, dot_1_eq h'.2.1 hp, dot_1_eq h'.2.2.1 hp, Option.bind_some, e1, e2, e3]
      simp
    · simp [h, hp]
  · simp [h]

theorem down_eq {n : Int} (h1 : -1000000000000000000 ≤ n) (h2 : n ≤ 1000000000000000000) : ref46_down n = some (n / 1024) := by
  have h := tdv n (k := 1024) (by decide)
  unfold ref46_down ref46_down.t
  rw [tr_ite]
  simp only [tr_ret, decide_eq_true_eq]
  rw [W_id (n := n.tdiv 1024) (by omega) (by omega)]
  split
  · rw [W_id (by omega) (by omega)]
    congr 1; omega
  · congr 1; omega

theorem RApply_eq {m : Mv} {p : P3} (h : right m) (hp : bd 1048576 p) : ref46_Apply (m, p) = some (app m p) := by
  have h' := h
  unfold right at h'
  have a := dot_bd h'.1 hp
  have b := dot_bd h'.2.1 hp
  have c := dot_bd h'.2.2.1 hp
  obtain ⟨e1, e2, e3⟩ := app_w h hp
  unfold ref46_Apply ref46_Apply.t
  simp only [tr_opt, tr_ret]
  rw [wdot h'.1 hp, wdot h'.2.1 hp, wdot h'.2.2.1 hp, down_eq (by omega) (by omega), down_eq (by omega) (by omega), down_eq (by omega) (by omega)]
  simp only [Option.bind_some, e1, e2, e3]

theorem In_eq (p : P3) : (decide (p.1 ≥ -1048576) && decide (p.1 ≤ 1048576) && decide (p.2.1 ≥ -1048576) && decide (p.2.1 ≤ 1048576) && decide (p.2.2 ≥ -1048576) && decide (p.2.2 ≤ 1048576)) = decide (bd 1048576 p) := by
  simp only [← Bool.decide_and, bd]
  apply decide_eq_decide.2
  omega

end Go.Proofs.Pen

namespace Go.Proofs.Pen
open Go Go.Proofs

theorem awake46 : law46_awake () = some true := by kernel_rfl

def col0 (b : Mv) : P3 := (b.1.1, b.2.1.1, b.2.2.1.1)
def col1 (b : Mv) : P3 := (b.1.2.1, b.2.1.2.1, b.2.2.1.2.1)
def col2 (b : Mv) : P3 := (b.1.2.2, b.2.1.2.2, b.2.2.1.2.2)
theorem column_eq (b : Mv) : xform_column (b, 0) = some (col0 b) ∧ xform_column (b, 1) = some (col1 b) ∧ xform_column (b, 2) = some (col2 b) := ⟨rfl, rfl, rfl⟩

theorem Then_1_eq {r c d e : P3} (hr : bd 4096 r) (hc : bd 4096 c) (hd : bd 4096 d) (he : bd 4096 e) : xform_Then_1 (r, c, d, e) = some (dot r c / 1024, dot r d / 1024, dot r e / 1024) := by
  have big : ∀ {q : P3}, bd 4096 q → bd 1048576 q := fun {q} h => by unfold bd at h ⊢; omega
  unfold xform_Then_1 xform_Then_1.t
  simp only [tr_opt, tr_ret, dot_1_eq hr (big hc), dot_1_eq hr (big hd), dot_1_eq hr (big he), Option.bind_some]

def rowsOf (r : P3) (b : Mv) : P3 := (dot r (col0 b) / 1024, dot r (col1 b) / 1024, dot r (col2 b) / 1024)
def thenM (a b : Mv) : Mv := (rowsOf a.1 b, rowsOf a.2.1 b, rowsOf a.2.2.1 b, app a b.2.2.2)
def zeroM : Mv := ((0, 0, 0), (0, 0, 0), (0, 0, 0), 0, 0, 0)

theorem Then_eq (a b : Mv) : xform_Then (a, b) = some (if exact a ∧ exact b ∧ right (thenM a b) then (thenM a b, 0) else (zeroM, 3)) := by
  unfold xform_Then xform_Then.t
  simp only [tr_ite, tr_ret, tr_opt, Exact_eq, Option.bind_some]
  by_cases ha : exact a
  · by_cases hb : exact b
    · have ra := ha.1
      have rb := hb.1
      obtain ⟨c0, c1, c2⟩ := column_eq b
      have d0 : bd 4096 (col0 b) := by have := rb; unfold right bd at this; unfold bd col0; dsimp only; omega
      have d1 : bd 4096 (col1 b) := by have := rb; unfold right bd at this; unfold bd col1; dsimp only; omega
      have d2 : bd 4096 (col2 b) := by have := rb; unfold right bd at this; unfold bd col2; dsimp only; omega
      have ba : right a ∧ bd 1048576 b.2.2.2 := ⟨ra, rb.2.2.2⟩
      simp only [ha, hb, decide_true, Bool.not_true, Bool.false_eq_true, if_false, c0, c1, c2, Option.bind_some, Apply_eq, ba, and_self, if_true]
      have r1 := Then_1_eq ra.1 d0 d1 d2
      have r2 := Then_1_eq ra.2.1 d0 d1 d2
      have r3 := Then_1_eq ra.2.2.1 d0 d1 d2
      simp only [r1, r2, r3, Option.bind_some, Check_eq]
      show (if ((if right (thenM a b) then (0 : Int) else 3) != 0) = true then some (zeroM, (3 : Int)) else some (thenM a b, 0)) = _
      by_cases hm : right (thenM a b) <;> simp [hm]
    · simp [ha, hb]; rfl
  · simp [ha]; rfl

theorem m1024_ex {p : P3} (h : m1024 p) : ∃ u : P3, p = (1024 * u.1, 1024 * u.2.1, 1024 * u.2.2) := by
  obtain ⟨a, b, c⟩ := p
  unfold m1024 at h
  have ha := tdv a (k := 1024) (by decide)
  have hb := tdv b (k := 1024) (by decide)
  have hc := tdv c (k := 1024) (by decide)
  dsimp only at h
  refine ⟨(a.tdiv 1024, b.tdiv 1024, c.tdiv 1024), ?_⟩
  ext <;> dsimp only <;> omega

theorem m1024_of (u : P3) : m1024 (1024 * u.1, 1024 * u.2.1, 1024 * u.2.2) := by
  refine ⟨?_, ?_, ?_⟩ <;> dsimp only <;> exact Int.mul_tmod_right ..

theorem dot_k (u p : P3) : dot (1024 * u.1, 1024 * u.2.1, 1024 * u.2.2) p / 1024 = dot u p := by
  have : dot (1024 * u.1, 1024 * u.2.1, 1024 * u.2.2) p = 1024 * dot u p := by unfold dot; grind
  rw [this]; omega

theorem then_law {a b : Mv} {p : P3} (ha : exact a) (hb : exact b) : (m1024 (thenM a b).1 ∧ m1024 (thenM a b).2.1 ∧ m1024 (thenM a b).2.2.1) ∧ app (thenM a b) p = app a (app b p) := by
  obtain ⟨x, y, z, t⟩ := a
  obtain ⟨x', y', z', t'⟩ := b
  obtain ⟨_, h1, h2, h3⟩ := ha
  obtain ⟨_, h4, h5, h6⟩ := hb
  obtain ⟨u1, e⟩ := m1024_ex h1; dsimp only at e; subst e
  obtain ⟨u2, e⟩ := m1024_ex h2; dsimp only at e; subst e
  obtain ⟨u3, e⟩ := m1024_ex h3; dsimp only at e; subst e
  obtain ⟨v1, e⟩ := m1024_ex h4; dsimp only at e; subst e
  obtain ⟨v2, e⟩ := m1024_ex h5; dsimp only at e; subst e
  obtain ⟨v3, e⟩ := m1024_ex h6; dsimp only at e; subst e
  have dd : ∀ (u : P3) (i j k : Int), dot u (1024 * i, 1024 * j, 1024 * k) = 1024 * dot u (i, j, k) := fun u i j k => by unfold dot; grind
  have hrow : ∀ u : P3, rowsOf (1024 * u.1, 1024 * u.2.1, 1024 * u.2.2) ((1024 * v1.1, 1024 * v1.2.1, 1024 * v1.2.2), (1024 * v2.1, 1024 * v2.2.1, 1024 * v2.2.2), (1024 * v3.1, 1024 * v3.2.1, 1024 * v3.2.2), t') =
      (1024 * dot u (v1.1, v2.1, v3.1), 1024 * dot u (v1.2.1, v2.2.1, v3.2.1), 1024 * dot u (v1.2.2, v2.2.2, v3.2.2)) := fun u => by
    unfold rowsOf
    rw [dot_k, dot_k, dot_k]
    unfold col0 col1 col2
    rw [dd, dd, dd]
  unfold thenM
  dsimp only
  rw [hrow, hrow, hrow]
  refine ⟨⟨m1024_of (_, _, _), m1024_of (_, _, _), m1024_of (_, _, _)⟩, ?_⟩
  unfold app
  dsimp only
  have k1 := fun u : P3 => dot_k (dot u (v1.1, v2.1, v3.1), dot u (v1.2.1, v2.2.1, v3.2.1), dot u (v1.2.2, v2.2.2, v3.2.2)) p
  dsimp only at k1
  rw [k1, k1, k1, dot_k, dot_k, dot_k, dot_k, dot_k, dot_k, dot_k, dot_k, dot_k]
  unfold dot
  dsimp only
  ext <;> dsimp only <;> grind

theorem XformThen_law (a b : Mv) (p : P3) : (law46_XformThen.t (a, b, p)).run = some true := by
  unfold law46_XformThen.t
  simp only [tr_ite, tr_ret, tr_opt, Then_eq, RExact_eq, Option.bind_some, awake46, In_eq]
  by_cases ha : exact a
  · by_cases hb : exact b
    · by_cases hm : right (thenM a b)
      · have hx := (then_law (p := p) ha hb).1
        have hex : exact (thenM a b) := ⟨hm, hx⟩
        by_cases hp : bd 1048576 p
        · by_cases hq : bd 1048576 (app b p)
          · have h2 := (then_law (p := p) ha hb).2
            simp [ha, hb, hm, hp, hex, hq, RApply_eq hb.1 hp, RApply_eq hm hp, RApply_eq ha.1 hq, h2]
          · simp [ha, hb, hm, hp, hex, hq, RApply_eq hb.1 hp]
        · simp [ha, hb, hm, hp, hex]
      · simp [ha, hb, hm, zeroM]
    · simp [ha, hb, zeroM]
  · simp [ha, zeroM]

theorem XformThen_all (x : dens [TMove, TMove, TPoint]) (_ : insAll [TMove, TMove, TPoint] x) : (law46_XformThen.t x).run = some true := XformThen_law x.1 x.2.1 x.2.2
end Go.Proofs.Pen

namespace Go.Proofs.Pen
open Go Go.Proofs

theorem XformMoves_law (m : Mv) (p : P3) (k : Int) : (law46_XformMoves.t (m, p, k)).run = some true := by
  unfold law46_XformMoves.t
  simp only [tr_ite, tr_ret, tr_opt, Apply_eq, Check_eq, Right_eq, Exact_eq, RExact_eq, Option.bind_some, awake46, In_eq]
  by_cases hm : right m
  · by_cases hp : bd 1048576 p
    · simp [hm, hp, RApply_eq hm hp]
    · simp [hm, hp]
  · simp [hm]

def qone : Mv := ((1024, 0, 0), (0, 1024, 0), (0, 0, 1024), 0, 0, 0)
def qm (a k : Nat) : Mv :=
  match a, k with
  | 0, 1 => ((1024, 0, 0), (0, 0, -1024), (0, 1024, 0), 0, 0, 0)
  | 0, 2 => ((1024, 0, 0), (0, -1024, 0), (0, 0, -1024), 0, 0, 0)
  | 0, 3 => ((1024, 0, 0), (0, 0, 1024), (0, -1024, 0), 0, 0, 0)
  | 1, 1 => ((0, 0, 1024), (0, 1024, 0), (-1024, 0, 0), 0, 0, 0)
  | 1, 2 => ((-1024, 0, 0), (0, 1024, 0), (0, 0, -1024), 0, 0, 0)
  | 1, 3 => ((0, 0, -1024), (0, 1024, 0), (1024, 0, 0), 0, 0, 0)
  | 2, 1 => ((0, -1024, 0), (1024, 0, 0), (0, 0, 1024), 0, 0, 0)
  | 2, 2 => ((-1024, 0, 0), (0, -1024, 0), (0, 0, 1024), 0, 0, 0)
  | 2, 3 => ((0, 1024, 0), (-1024, 0, 0), (0, 0, 1024), 0, 0, 0)
  | _, _ => qone

def ql (a k : Nat) : Prop := xform_Quarter.l0 (a, zeroM, qone, k, 0, ()) = some (Ex.exit 0, (a : Int), zeroM, qm a k, (k : Int), (k : Int), ())
theorem ql_all : (ql 0 0 ∧ ql 0 1 ∧ ql 0 2 ∧ ql 0 3) ∧ (ql 1 0 ∧ ql 1 1 ∧ ql 1 2 ∧ ql 1 3) ∧ (ql 2 0 ∧ ql 2 1 ∧ ql 2 2 ∧ ql 2 3) := by
  unfold ql
  refine ⟨⟨?_, ?_, ?_, ?_⟩, ⟨?_, ?_, ?_, ?_⟩, ?_, ?_, ?_, ?_⟩ <;> kernel_rfl
theorem ql_of {a k : Nat} (ha : a < 3) (hk : k < 4) : ql a k := by
  obtain ⟨⟨a0, a1, a2, a3⟩, ⟨b0, b1, b2, b3⟩, c0, c1, c2, c3⟩ := ql_all
  have e1 : a = 0 ∨ a = 1 ∨ a = 2 := by omega
  have e2 : k = 0 ∨ k = 1 ∨ k = 2 ∨ k = 3 := by omega
  rcases e1 with rfl | rfl | rfl
  · rcases e2 with rfl | rfl | rfl | rfl
    · exact a0
    · exact a1
    · exact a2
    · exact a3
  · rcases e2 with rfl | rfl | rfl | rfl
    · exact b0
    · exact b1
    · exact b2
    · exact b3
  · rcases e2 with rfl | rfl | rfl | rfl
    · exact c0
    · exact c1
    · exact c2
    · exact c3

theorem four (t : Int) : ∃ k : Nat, k < 4 ∧ (W (t.tmod 4 + 4)).tmod 4 = k ∧ (t.tmod 4 < 0 → W (t.tmod 4 + 4) = k) ∧ (¬ t.tmod 4 < 0 → t.tmod 4 = k) := by
  have h := tdv t (k := 4) (by decide)
  have h2 := tdv (t.tmod 4 + 4) (k := 4) (by decide)
  have hw : W (t.tmod 4 + 4) = t.tmod 4 + 4 := W_id (by omega) (by omega)
  rw [hw]
  refine ⟨((t.tmod 4 + 4).tmod 4).toNat, ?_, ?_, ?_, ?_⟩ <;> omega

theorem Quarter_eq {a : Nat} {k : Nat} {t : Int} (ha : a < 3) (hk : k < 4) (ht : (W (t.tmod 4 + 4)).tmod 4 = k) : xform_Quarter ((a : Int), t) = some (qm a k, 0) := by
  have hql : ql a k := ql_of ha hk
  unfold ql zeroM qone at hql
  unfold xform_Quarter xform_Quarter.t
  simp only [tr_ite, tr_ret, tr_opt, ht, hql, Option.bind_some]
  rw [if_neg (by simp; omega)]
  rfl

/-- The law's own turns. -/
def tp (a k : Nat) (p : P3) : P3 :=
  match a, k with
  | 0, 1 => (p.1, -p.2.2, p.2.1)
  | 0, 2 => (p.1, -p.2.1, -p.2.2)
  | 0, 3 => (p.1, p.2.2, -p.2.1)
  | 1, 1 => (p.2.2, p.2.1, -p.1)
  | 1, 2 => (-p.1, p.2.1, -p.2.2)
  | 1, 3 => (-p.2.2, p.2.1, p.1)
  | 2, 1 => (-p.2.1, p.1, p.2.2)
  | 2, 2 => (-p.1, -p.2.1, p.2.2)
  | 2, 3 => (p.2.1, -p.1, p.2.2)
  | _, _ => p

theorem neg_w {n : Int} (h1 : -1048576 ≤ n) (h2 : n ≤ 1048576) : W (0 - n) = -n := by rw [W_id] <;> omega

def lw (a k : Nat) (p : P3) : P3 :=
  match a, k with
  | 0, 1 => (p.1, W (0 - p.2.2), p.2.1)
  | 0, 2 => (p.1, W (0 - p.2.1), W (0 - p.2.2))
  | 0, 3 => (p.1, W (0 - W (0 - p.2.2)), W (0 - p.2.1))
  | 1, 1 => (p.2.2, p.2.1, W (0 - p.1))
  | 1, 2 => (W (0 - p.1), p.2.1, W (0 - p.2.2))
  | 1, 3 => (W (0 - p.2.2), p.2.1, W (0 - W (0 - p.1)))
  | 2, 1 => (W (0 - p.2.1), p.1, p.2.2)
  | 2, 2 => (W (0 - p.1), W (0 - p.2.1), p.2.2)
  | 2, 3 => (W (0 - W (0 - p.2.1)), W (0 - p.1), p.2.2)
  | _, _ => p
def ll (a k : Nat) : Prop := ∀ (q : P3) (m : Mv) (p : P3), law46_XformTurns.l0 (a, q, m, p, k, 0, ()) = some (Ex.exit 0, (a : Int), q, m, lw a k p, (k : Int), (k : Int), ())
theorem ll_all : (ll 0 0 ∧ ll 0 1 ∧ ll 0 2 ∧ ll 0 3) ∧ (ll 1 0 ∧ ll 1 1 ∧ ll 1 2 ∧ ll 1 3) ∧ (ll 2 0 ∧ ll 2 1 ∧ ll 2 2 ∧ ll 2 3) := by
  unfold ll
  refine ⟨⟨?_, ?_, ?_, ?_⟩, ⟨?_, ?_, ?_, ?_⟩, ?_, ?_, ?_, ?_⟩ <;> intro q m p <;> kernel_rfl
theorem ll_of {a k : Nat} (ha : a < 3) (hk : k < 4) : ll a k := by
  obtain ⟨⟨a0, a1, a2, a3⟩, ⟨b0, b1, b2, b3⟩, c0, c1, c2, c3⟩ := ll_all
  have e1 : a = 0 ∨ a = 1 ∨ a = 2 := by omega
  have e2 : k = 0 ∨ k = 1 ∨ k = 2 ∨ k = 3 := by omega
  rcases e1 with rfl | rfl | rfl
  · rcases e2 with rfl | rfl | rfl | rfl
    · exact a0
    · exact a1
    · exact a2
    · exact a3
  · rcases e2 with rfl | rfl | rfl | rfl
    · exact b0
    · exact b1
    · exact b2
    · exact b3
  · rcases e2 with rfl | rfl | rfl | rfl
    · exact c0
    · exact c1
    · exact c2
    · exact c3

theorem turns {a k : Nat} {p : P3} (ha : a < 3) (hk : k < 4) (hp : bd 1048576 p) : right (qm a k) ∧ app (qm a k) p = lw a k p ∧ ll a k := by
  have hll : ll a k := ll_of ha hk
  have e1 : a = 0 ∨ a = 1 ∨ a = 2 := by omega
  have e2 : k = 0 ∨ k = 1 ∨ k = 2 ∨ k = 3 := by omega
  obtain ⟨x, y, z⟩ := p
  unfold bd at hp
  dsimp only at hp
  have n1 : W (0 - x) = -x := neg_w hp.1 hp.2.1
  have n2 : W (0 - y) = -y := neg_w hp.2.2.1 hp.2.2.2.1
  have n3 : W (0 - z) = -z := neg_w hp.2.2.2.2.1 hp.2.2.2.2.2
  have m1 : W (0 - -x) = x := by rw [neg_w (by omega) (by omega)]; omega
  have m2 : W (0 - -y) = y := by rw [neg_w (by omega) (by omega)]; omega
  have m3 : W (0 - -z) = z := by rw [neg_w (by omega) (by omega)]; omega
  rcases e1 with rfl | rfl | rfl <;> rcases e2 with rfl | rfl | rfl | rfl <;> refine ⟨by decide, ?_, hll⟩ <;> unfold app dot qm lw <;> (try unfold qone) <;> dsimp only <;> (try simp only [n1, n2, n3, m1, m2, m3]) <;> ext <;> dsimp only <;> omega

theorem XformTurns_law (a t : Int) (p : P3) : (law46_XformTurns.t (a, t, p)).run = some true := by
  unfold law46_XformTurns.t
  by_cases h : a < 0 ∨ a > 2
  · have hq : xform_Quarter (a, t) = some (zeroM, 2) := by
      unfold xform_Quarter xform_Quarter.t
      simp only [tr_ite, tr_ret, tr_opt]
      rw [if_pos (by simpa using h)]; rfl
    simp only [tr_ite, tr_ret, tr_opt, hq, Option.bind_some, awake46]
    rw [if_pos (by simpa using h)]
    rfl
  · obtain ⟨n, rfl⟩ : ∃ n : Nat, a = n := ⟨a.toNat, by omega⟩
    have hn : n < 3 := by omega
    obtain ⟨k, hk, h1, h2, h3⟩ := four t
    have hq := Quarter_eq hn hk h1
    have hq4 : xform_Quarter ((n : Int), 4) = some (qm n 0, 0) := Quarter_eq hn (by decide) (by rfl)
    have h0 : qm n 0 = qone := by
      have : n = 0 ∨ n = 1 ∨ n = 2 := by omega
      rcases this with rfl | rfl | rfl <;> rfl
    simp only [tr_ite, tr_ret, tr_opt, hq, Option.bind_some, awake46, In_eq]
    rw [if_neg (by simpa using h)]
    by_cases hp : bd 1048576 p
    · obtain ⟨t1, t2, t3⟩ := turns hn hk hp
      by_cases ht : t.tmod 4 < 0
      · simp only [h2 ht, t3 p (qm n k) p, hp, ht, hq4, h0, RApply_eq t1 hp, t2, Option.bind_some, decide_true]
        simp [exEq, qone]
      · simp only [h3 ht, t3 p (qm n k) p, hp, hq4, h0, RApply_eq t1 hp, t2, Option.bind_some, decide_true]
        have : ¬ ((k : Int) < 0) := by omega
        simp [exEq, qone, this]
    · simp [hp]

theorem XformMoves_all (x : dens [TMove, TPoint, TI]) (_ : insAll [TMove, TPoint, TI] x) : (law46_XformMoves.t x).run = some true := XformMoves_law x.1 x.2.1 x.2.2
theorem XformTurns_all (x : dens [TI, TI, TPoint]) (_ : insAll [TI, TI, TPoint] x) : (law46_XformTurns.t x).run = some true := XformTurns_law x.1 x.2.1 x.2.2
end Go.Proofs.Pen
