/- A part of the proof that the law TilesCuts is true of every input: models of the functions that the law reaches, and what holds of them. -/
import Derived.Test.YtdcdmooafepbiaaChecked
import Derived.KernelRfl
import Derived.Test.YtdcdmooafepbiaaPenKit0
import Derived.Test.YtdcdmooafepbiaaPenKit1
import Derived.Test.YtdcdmooafepbiaaPenKit2
import Derived.Test.YtdcdmooafepbiaaPenKit3
import Derived.Test.YtdcdmooafepbiaaPenTilesCuts4
import Derived.Test.YtdcdmooafepbiaaPenKit5
namespace Go.Proofs.Pen
open Go Go.Proofs
abbrev TI : Ty := (.int .i64)
abbrev TRect : Ty := (.st (.pair (.int .i64) (.pair (.int .i64) (.pair (.int .i64) (.int .i64)))))
abbrev TPic : Ty := (.st (.pair (.int .i64) (.pair (.int .i64) (.pair (.sl .flt) (.sl (.int .i64))))))
abbrev TPiece : Ty := (.st (.pair (.st (.pair (.int .i64) (.pair (.int .i64) (.pair (.int .i64) (.int .i64))))) (.pair (.sl .flt) (.sl (.int .i64)))))
theorem mixed : Try.prog.follows .mixedOrders = true := by kernel_rfl
noncomputable def Xs : Nat → List AV → T AV := noQ
theorem Xok : QuietOK Try.prog Xs := quiet_none _
end Go.Proofs.Pen

namespace Go.Proofs.Pen
open Go Go.Proofs
noncomputable def eachCut.deeps : Deeps := { D := [53], C := [], frz := false, S := fun _ _ => noS }
theorem eachCut.deepsOk : LoopsOK Try.prog eachCut.deeps.S := (loops_none _)
def eachCut.L2 : List (Nat × Lay) := [(9000, .blk 0 TPic), (9001, .blk 1 TRect), (9002, .blk 2 TPiece), (9003, .oblk 3 [.dat TRect, .own .flt, .own TI]), (1, .clo 53 [0, 3]), (2, .box TRect), (4, .val TI), (5, .val TI)]
noncomputable def eachCut.t2 (x : (Int × Int × List (Option Nat) × List (Int)) × (Int × Int × Int × Int) × ((Int × Int × Int × Int) × List (Option Nat) × List (Int)) × ((Int × Int × Int × Int) × List (Option Nat) × List Int × Unit) × (Int × Int × Int × Int) × Int × Int × Unit) : T (Ex × (Int × Int × List (Option Nat) × List (Int)) × (Int × Int × Int × Int) × ((Int × Int × Int × Int) × List (Option Nat) × List (Int)) × ((Int × Int × Int × Int) × List (Option Nat) × List Int × Unit) × (Int × Int × Int × Int) × Int × Int × Unit) := T.ite (decide (x.2.2.2.2.2.2.1 < x.2.2.2.2.1.2.2.1)) (T.ite (decide ((0 : Int) ≤ W ((3 : Int) * W (W (x.2.2.2.2.2.1 * x.1.1) + x.2.2.2.2.2.2.1))) && decide (W ((3 : Int) * W (W (x.2.2.2.2.2.1 * x.1.1) + x.2.2.2.2.2.2.1)) ≤ W (W ((3 : Int) * W (W (x.2.2.2.2.2.1 * x.1.1) + x.2.2.2.2.2.2.1)) + (3 : Int))) && decide (W (W ((3 : Int) * W (W (x.2.2.2.2.2.1 * x.1.1) + x.2.2.2.2.2.2.1)) + (3 : Int)) ≤ (↑(List.length x.1.2.2.1) : Int))) (T.ite (decide ((x.2.2.2.1.2.1.length + (List.take ((W (W ((3 : Int) * W (W (x.2.2.2.2.2.1 * x.1.1) + x.2.2.2.2.2.2.1)) + (3 : Int))).toNat - (W ((3 : Int) * W (W (x.2.2.2.2.2.1 * x.1.1) + x.2.2.2.2.2.2.1))).toNat) (List.drop (W ((3 : Int) * W (W (x.2.2.2.2.2.1 * x.1.1) + x.2.2.2.2.2.2.1))).toNat x.1.2.2.1)).length) * nat_lit 8 ≤ most)) (T.opt (lget x.1.2.2.2 (W (W (x.2.2.2.2.2.1 * x.1.1) + x.2.2.2.2.2.2.1))) fun y => T.ite (decide ((x.2.2.2.1.2.2.1.length + (1 : Nat)) * nat_lit 8 ≤ most)) (T.ret (Ex.normal, x.1, x.2.1, x.2.2.1, (x.2.2.2.1.1, List.take (x.2.2.2.1.2.1.length + (List.take ((W (W ((3 : Int) * W (W (x.2.2.2.2.2.1 * x.1.1) + x.2.2.2.2.2.2.1)) + (3 : Int))).toNat - (W ((3 : Int) * W (W (x.2.2.2.2.2.1 * x.1.1) + x.2.2.2.2.2.2.1))).toNat) (List.drop (W ((3 : Int) * W (W (x.2.2.2.2.2.1 * x.1.1) + x.2.2.2.2.2.2.1))).toNat x.1.2.2.1)).length) (List.take x.2.2.2.1.2.1.length x.2.2.2.1.2.1 ++ List.take ((W (W ((3 : Int) * W (W (x.2.2.2.2.2.1 * x.1.1) + x.2.2.2.2.2.2.1)) + (3 : Int))).toNat - (W ((3 : Int) * W (W (x.2.2.2.2.2.1 * x.1.1) + x.2.2.2.2.2.2.1))).toNat) (List.drop (W ((3 : Int) * W (W (x.2.2.2.2.2.1 * x.1.1) + x.2.2.2.2.2.2.1))).toNat x.1.2.2.1)), List.take (x.2.2.2.1.2.2.1.length + (1 : Nat)) (List.take x.2.2.2.1.2.2.1.length x.2.2.2.1.2.2.1 ++ [y]), ()), x.2.2.2.2.1, x.2.2.2.2.2.1, W (x.2.2.2.2.2.2.1 + (1 : Int)), ())) T.fail) T.fail) T.fail) (T.ret (Ex.exit (2 : Nat), x.1, x.2.1, x.2.2.1, (x.2.2.2.1.1, List.take x.2.2.2.1.2.1.length x.2.2.2.1.2.1, List.take x.2.2.2.1.2.2.1.length x.2.2.2.1.2.2.1, ()), x.2.2.2.2.1, x.2.2.2.2.2.1, x.2.2.2.2.2.2.1, ()))
noncomputable def eachCut.l2 (x : (Int × Int × List (Option Nat) × List (Int)) × (Int × Int × Int × Int) × ((Int × Int × Int × Int) × List (Option Nat) × List (Int)) × ((Int × Int × Int × Int) × List (Option Nat) × List Int × Unit) × (Int × Int × Int × Int) × Int × Int × Unit) : Option (Ex × (Int × Int × List (Option Nat) × List (Int)) × (Int × Int × Int × Int) × ((Int × Int × Int × Int) × List (Option Nat) × List (Int)) × ((Int × Int × Int × Int) × List (Option Nat) × List Int × Unit) × (Int × Int × Int × Int) × Int × Int × Unit) := (iterT eachCut.t2 rounds x).run
theorem eachCut.k2 : bodies 2 (lp Try.f52 [0]) = [.loop (loopIn 2 (lp Try.f52 [0]))] ∧ WP Try.prog 4 (.block 2 (.loop (loopIn 2 (lp Try.f52 [0])))) (loopS eachCut.L2 26 2 [.exit 2] eachCut.l2) :=
  loop_treeN 4 (L := eachCut.L2) (F := (dp Try.prog Xs eachCut.deeps 100 8)) (D := (inL eachCut.deeps.D)) (tab := []) (t := eachCut.t2) mixed (dp_ok mixed Xok eachCut.deepsOk 100 8).1 (dp_ok mixed Xok eachCut.deepsOk 100 8).2 (fun _ => rfl) (by kernel_rfl) (by kernel_rfl) trivial (fun x => by kernel_rfl)
def eachCut.L0 : List (Nat × Lay) := [(9000, .blk 0 TPic), (9001, .blk 1 TRect), (9002, .blk 2 TPiece), (9003, .oblk 3 [.dat TRect, .own .flt, .own TI]), (1, .clo 53 [0, 3]), (2, .box TRect), (4, .val TI)]
noncomputable def eachCut.t0 (x : (Int × Int × List (Option Nat) × List (Int)) × (Int × Int × Int × Int) × ((Int × Int × Int × Int) × List (Option Nat) × List (Int)) × ((Int × Int × Int × Int) × List (Option Nat) × List Int × Unit) × (Int × Int × Int × Int) × Int × Unit) : T (Ex × (Int × Int × List (Option Nat) × List (Int)) × (Int × Int × Int × Int) × ((Int × Int × Int × Int) × List (Option Nat) × List (Int)) × ((Int × Int × Int × Int) × List (Option Nat) × List Int × Unit) × (Int × Int × Int × Int) × Int × Unit) := T.ite (decide (x.2.2.2.2.2.1 < x.2.2.2.2.1.2.2.2)) (T.opt (eachCut.l2 (x.1, x.2.1, x.2.2.1, (x.2.2.2.1.1, List.take x.2.2.2.1.2.1.length x.2.2.2.1.2.1, List.take x.2.2.2.1.2.2.1.length x.2.2.2.1.2.2.1, ()), x.2.2.2.2.1, x.2.2.2.2.2.1, x.2.2.2.2.1.1, ())) fun y => T.ite (exEq y.1 (Ex.exit (2 : Nat))) (T.ret (Ex.normal, y.2.1, y.2.2.1, y.2.2.2.1, (y.2.2.2.2.1.1, List.take y.2.2.2.2.1.2.1.length y.2.2.2.2.1.2.1, List.take y.2.2.2.2.1.2.2.1.length y.2.2.2.2.1.2.2.1, ()), y.2.2.2.2.2.1, W (y.2.2.2.2.2.2.1 + (1 : Int)), ())) T.fail) (T.ret (Ex.exit (0 : Nat), x.1, x.2.1, x.2.2.1, (x.2.2.2.1.1, List.take x.2.2.2.1.2.1.length x.2.2.2.1.2.1, List.take x.2.2.2.1.2.2.1.length x.2.2.2.1.2.2.1, ()), x.2.2.2.2.1, x.2.2.2.2.2.1, ()))
noncomputable def eachCut.l0 (x : (Int × Int × List (Option Nat) × List (Int)) × (Int × Int × Int × Int) × ((Int × Int × Int × Int) × List (Option Nat) × List (Int)) × ((Int × Int × Int × Int) × List (Option Nat) × List Int × Unit) × (Int × Int × Int × Int) × Int × Unit) : Option (Ex × (Int × Int × List (Option Nat) × List (Int)) × (Int × Int × Int × Int) × ((Int × Int × Int × Int) × List (Option Nat) × List (Int)) × ((Int × Int × Int × Int) × List (Option Nat) × List Int × Unit) × (Int × Int × Int × Int) × Int × Unit) := (iterT eachCut.t0 rounds x).run
theorem eachCut.k0 : bodies 0 (lp Try.f52 []) = [.loop (loopIn 0 (lp Try.f52 []))] ∧ WP Try.prog 4 (.block 0 (.loop (loopIn 0 (lp Try.f52 [])))) (loopS eachCut.L0 26 0 [.exit 0] eachCut.l0) :=
  loop_treeN 4 (L := eachCut.L0) (F := (dp Try.prog Xs eachCut.deeps 100 8)) (D := (inL eachCut.deeps.D)) (tab := [(2, loopS eachCut.L2 26 2 [.exit 2] eachCut.l2)]) (t := eachCut.t0) mixed (dp_ok mixed Xok eachCut.deepsOk 100 8).1 (dp_ok mixed Xok eachCut.deepsOk 100 8).2 (fun _ => rfl) (by kernel_rfl) (by kernel_rfl) ⟨eachCut.k2, trivial⟩ (fun x => by kernel_rfl)
noncomputable def eachCut.S : List (Nat × (St → T (Ex × St))) := [(0, loopS eachCut.L0 26 0 [.exit 0] eachCut.l0)]
theorem eachCut.tab : TabOK Try.prog 4 (codeOf Try.f52) eachCut.S := ⟨eachCut.k0, trivial⟩
end Go.Proofs.Pen

namespace Go.Proofs.Pen
open Go Go.Proofs
noncomputable def split_may.t (x : Int × Int) : T (Bool) := T.ret (decide ((if x.2 < x.1 then x.2 else x.1) ≥ (1 : Int)) && decide ((if x.2 > x.1 then x.2 else x.1) ≤ (8192 : Int)) && decide (W (x.1 * x.2) ≤ (65536 : Int)))
noncomputable def split_may.q : List AV → T AV := entry [TI, TI] (outR [.bool]) split_may.t
theorem split_may.ok : FnOK Try.prog 54 split_may.q :=
  entry_in (ps := [TI, TI]) (rs := [.bool]) (F := ({ quiet := Xs, deep := noDeep } : Fns)) (D := D0) (S := tabS []) (t := split_may.t) mixed Xok (deep_none _) Try.func54 (by kernel_rfl) (sok_fn trivial) (by kernel_rfl) (fun x => by kernel_rfl)
end Go.Proofs.Pen

namespace Go.Proofs.Pen
open Go Go.Proofs
noncomputable def split_Bands_1.t (x : Int × Int × Int) : T (Int) := T.ite (x.2.2 == (0 : Int)) T.fail (T.ret (W ((W (x.1 * x.2.1)).tdiv x.2.2)))
noncomputable def split_Bands_1 (x : Int × Int × Int) : Option (Int) := (split_Bands_1.t x).run
noncomputable def split_Bands_1.q : List AV → T AV := entry [TI, (.ptr TI), (.ptr TI)] (outR [TI]) fun x => .opt (split_Bands_1 x) .ret
theorem split_Bands_1.ok : FnOK Try.prog 92 split_Bands_1.q :=
  entry_call (ps := [TI, (.ptr TI), (.ptr TI)]) (rs := [TI]) (F := ({ quiet := Xs, deep := noDeep } : Fns)) (D := D0) (S := tabS []) (t := split_Bands_1.t) mixed Xok (deep_none _) Try.func92 (by kernel_rfl) (sok_fn trivial) (by kernel_rfl) (fun x => by kernel_rfl)
end Go.Proofs.Pen

namespace Go.Proofs.Pen
open Go Go.Proofs
def split_Bands.L1 : List (Nat × Lay) := [(0, .val TI), (4, .box TI), (5, .box TI), (8, .clo 92 [0, 1]), (9, .row TRect), (25, .val TI), (26, .val TI)]
noncomputable def split_Bands.t1 (x : Int × Int × Int × List (Int × Int × Int × Int) × Int × Int × Unit) : T (Ex × Int × Int × Int × List (Int × Int × Int × Int) × Int × Int × Unit) := T.ite (decide (x.2.2.2.2.2.1 < x.2.2.2.2.1)) (T.opt (split_Bands_1 (x.2.2.2.2.2.1, x.2.1, x.2.2.1)) fun y => T.opt (split_Bands_1 (W (x.2.2.2.2.2.1 + (1 : Int)), x.2.1, x.2.2.1)) fun y_1 => T.ite (decide ((x.2.2.2.1.length + (1 : Nat)) * nat_lit 32 ≤ most)) (T.ret (Ex.normal, x.1, x.2.1, x.2.2.1, List.take (x.2.2.2.1.length + (1 : Nat)) (List.take x.2.2.2.1.length x.2.2.2.1 ++ [((0 : Int), y, x.1, y_1)]), x.2.2.2.2.1, W (x.2.2.2.2.2.1 + (1 : Int)), ())) T.fail) (T.ret (Ex.exit (1 : Nat), x.1, x.2.1, x.2.2.1, List.take x.2.2.2.1.length x.2.2.2.1, x.2.2.2.2.1, x.2.2.2.2.2.1, ()))
noncomputable def split_Bands.l1 (x : Int × Int × Int × List (Int × Int × Int × Int) × Int × Int × Unit) : Option (Ex × Int × Int × Int × List (Int × Int × Int × Int) × Int × Int × Unit) := (iterT split_Bands.t1 rounds x).run
theorem split_Bands.k1 : bodies 1 (lp Try.f49 []) = [.loop (loopIn 1 (lp Try.f49 []))] ∧ WP Try.prog 0 (.block 1 (.loop (loopIn 1 (lp Try.f49 [])))) (loopS split_Bands.L1 43 1 [.exit 1] split_Bands.l1) :=
  loop_tree (L := split_Bands.L1) (F := ({ quiet := (ext (ext Xs 54 split_may.q) 92 split_Bands_1.q), deep := noDeep } : Fns)) (D := D0) (tab := []) (t := split_Bands.t1) mixed (quiet_ext (quiet_ext Xok split_may.ok) split_Bands_1.ok) (deep_none _) (fun _ => rfl) (by kernel_rfl) (by kernel_rfl) trivial (fun x => by kernel_rfl)
noncomputable def split_Bands.t (x : Int × Int × Int) : T ((List (Int × Int × Int × Int)) × Int) := T.ite (!(decide ((if x.2.1 < x.1 then x.2.1 else x.1) ≥ (1 : Int)) && decide ((if x.2.1 > x.1 then x.2.1 else x.1) ≤ (8192 : Int)) && decide (W (x.1 * x.2.1) ≤ (65536 : Int)))) (T.ret ([], (12 : Int))) (T.ite (decide (x.2.2 < (1 : Int)) || decide (x.2.2 > x.2.1)) (T.ret ([], (3 : Int))) (T.opt (split_Bands.l1 (x.1, x.2.1, x.2.2, [], x.2.2, (0 : Int), ())) fun y => T.ite (exEq y.1 (Ex.exit (1 : Nat))) (T.ret (List.take y.2.2.2.2.1.length y.2.2.2.2.1, (0 : Int))) T.fail))
noncomputable def split_Bands (x : Int × Int × Int) : Option ((List (Int × Int × Int × Int)) × Int) := (split_Bands.t x).run
noncomputable def split_Bands.q : List AV → T AV := entry [TI, TI, TI] (outR [(.sl TRect), TI]) fun x => .opt (split_Bands x) .ret
theorem split_Bands.ok : FnOK Try.prog 49 split_Bands.q :=
  entry_call (ps := [TI, TI, TI]) (rs := [(.sl TRect), TI]) (F := ({ quiet := (ext (ext Xs 54 split_may.q) 92 split_Bands_1.q), deep := noDeep } : Fns)) (D := D0) (S := tabS [(1, loopS split_Bands.L1 43 1 [.exit 1] split_Bands.l1)]) (t := split_Bands.t) mixed (quiet_ext (quiet_ext Xok split_may.ok) split_Bands_1.ok) (deep_none _) Try.func49 (by kernel_rfl) (sok_fn ⟨split_Bands.k1, trivial⟩) (by kernel_rfl) (fun x => by kernel_rfl)
end Go.Proofs.Pen

namespace Go.Proofs.Pen
open Go Go.Proofs
noncomputable def tiles_full.t (x : Int × (List (Option Nat)) × (List (Int))) : T (Bool) := T.ret ((↑(List.length x.2.1) : Int) == W ((3 : Int) * x.1) && (↑(List.length x.2.2) : Int) == x.1)
noncomputable def tiles_full.q : List AV → T AV := entry [TI, (.sl .flt), (.sl TI)] (outR [.bool]) tiles_full.t
theorem tiles_full.ok : FnOK Try.prog 50 tiles_full.q :=
  entry_in (ps := [TI, (.sl .flt), (.sl TI)]) (rs := [.bool]) (F := ({ quiet := Xs, deep := noDeep } : Fns)) (D := D0) (S := tabS []) (t := tiles_full.t) mixed Xok (deep_none _) Try.func50 (by kernel_rfl) (sok_fn trivial) (by kernel_rfl) (fun x => by kernel_rfl)
end Go.Proofs.Pen

namespace Go.Proofs.Pen
open Go Go.Proofs
noncomputable def split_Meet.t (x : (Int × Int × Int × Int) × (Int × Int × Int × Int)) : T ((Int × Int × Int × Int) × Bool) := T.ite (decide ((if x.2.2.2.1 < x.1.2.2.1 then x.2.2.2.1 else x.1.2.2.1) ≤ if x.2.1 > x.1.1 then x.2.1 else x.1.1) || decide ((if x.2.2.2.2 < x.1.2.2.2 then x.2.2.2.2 else x.1.2.2.2) ≤ if x.2.2.1 > x.1.2.1 then x.2.2.1 else x.1.2.1)) (T.ret (((0 : Int), (0 : Int), (0 : Int), (0 : Int)), false)) (T.ret ((if x.2.1 > x.1.1 then x.2.1 else x.1.1, if x.2.2.1 > x.1.2.1 then x.2.2.1 else x.1.2.1, if x.2.2.2.1 < x.1.2.2.1 then x.2.2.2.1 else x.1.2.2.1, if x.2.2.2.2 < x.1.2.2.2 then x.2.2.2.2 else x.1.2.2.2), true))
noncomputable def split_Meet (x : (Int × Int × Int × Int) × (Int × Int × Int × Int)) : Option ((Int × Int × Int × Int) × Bool) := (split_Meet.t x).run
noncomputable def split_Meet.q : List AV → T AV := entry [TRect, TRect] (outR [TRect, .bool]) fun x => .opt (split_Meet x) .ret
theorem split_Meet.ok : FnOK Try.prog 93 split_Meet.q :=
  entry_call (ps := [TRect, TRect]) (rs := [TRect, .bool]) (F := ({ quiet := Xs, deep := noDeep } : Fns)) (D := D0) (S := tabS []) (t := split_Meet.t) mixed Xok (deep_none _) Try.func93 (by kernel_rfl) (sok_fn trivial) (by kernel_rfl) (fun x => by kernel_rfl)
end Go.Proofs.Pen

namespace Go.Proofs.Pen
open Go Go.Proofs
noncomputable def tiles_fits.t (x : (Int × Int × Int × Int) × Int × Int) : T (Bool) := T.opt (split_Meet (x.1, (0 : Int), (0 : Int), x.2)) fun y => T.ret (y.2 && (y.1.1 == x.1.1 && (y.1.2.1 == x.1.2.1 && (y.1.2.2.1 == x.1.2.2.1 && y.1.2.2.2 == x.1.2.2.2))))
noncomputable def tiles_fits (x : (Int × Int × Int × Int) × Int × Int) : Option (Bool) := (tiles_fits.t x).run
noncomputable def tiles_fits.q : List AV → T AV := entry [TRect, TI, TI] (outR [.bool]) fun x => .opt (tiles_fits x) .ret
theorem tiles_fits.ok : FnOK Try.prog 51 tiles_fits.q :=
  entry_call (ps := [TRect, TI, TI]) (rs := [.bool]) (F := ({ quiet := (ext Xs 93 split_Meet.q), deep := noDeep } : Fns)) (D := D0) (S := tabS []) (t := tiles_fits.t) mixed (quiet_ext Xok split_Meet.ok) (deep_none _) Try.func51 (by kernel_rfl) (sok_fn trivial) (by kernel_rfl) (fun x => by kernel_rfl)
end Go.Proofs.Pen

namespace Go.Proofs.Pen
open Go Go.Proofs
noncomputable def tiles_Cut.deeps : Deeps := { D := [52, 53], C := [], frz := false, S := extSn (fun _ _ => noS) 52 4 (tabS eachCut.S) }
theorem tiles_Cut.deepsOk : LoopsOK Try.prog tiles_Cut.deeps.S := (loops_extn (loops_none _) Try.func52 eachCut.tab)
noncomputable def tiles_Cut.t (x : (Int × Int × List (Option Nat) × List (Int)) × (Int × Int × Int × Int)) : T (((Int × Int × Int × Int) × List (Option Nat) × List (Int)) × Int) := T.opt (split_Bands (x.1.1, x.1.2.1, (1 : Int))) fun y => T.ite (y.2 != (0 : Int)) (T.ret ((((0 : Int), (0 : Int), (0 : Int), (0 : Int)), [], []), (14 : Int))) (T.ite (!((↑x.1.2.2.1.length : Int) == W ((3 : Int) * W (x.1.1 * x.1.2.1)) && (↑x.1.2.2.2.length : Int) == W (x.1.1 * x.1.2.1))) (T.ret ((((0 : Int), (0 : Int), (0 : Int), (0 : Int)), [], []), (14 : Int))) (T.opt (tiles_fits (x.2, x.1.1, x.1.2.1)) fun y => T.ite (!y) (T.ret ((((0 : Int), (0 : Int), (0 : Int), (0 : Int)), [], []), (3 : Int))) (T.opt (eachCut.l0 (x.1, x.2, (((0 : Int), (0 : Int), (0 : Int), (0 : Int)), [], []), (x.2, [], [], ()), x.2, x.2.2.1, ())) fun y => T.ite (exEq y.1 (Ex.exit (0 : Nat))) (T.ret ((y.2.2.2.2.1.1, List.take y.2.2.2.2.1.2.1.length y.2.2.2.2.1.2.1, List.take y.2.2.2.2.1.2.2.1.length y.2.2.2.2.1.2.2.1), (0 : Int))) T.fail)))
noncomputable def tiles_Cut (x : (Int × Int × List (Option Nat) × List (Int)) × (Int × Int × Int × Int)) : Option (((Int × Int × Int × Int) × List (Option Nat) × List (Int)) × Int) := (tiles_Cut.t x).run
noncomputable def tiles_Cut.q : List AV → T AV := entry [TPic, TRect] (outR [TPiece, TI]) fun x => .opt (tiles_Cut x) .ret
theorem tiles_Cut.ok : FnOK Try.prog 11 tiles_Cut.q :=
  entry_call (ps := [TPic, TRect]) (rs := [TPiece, TI]) (F := (dp Try.prog (ext (ext (ext (ext Xs 49 split_Bands.q) 50 tiles_full.q) 51 tiles_fits.q) 92 split_Bands_1.q) tiles_Cut.deeps 100 8)) (D := (inL tiles_Cut.deeps.D)) (S := tabS []) (t := tiles_Cut.t) mixed (dp_ok mixed (quiet_ext (quiet_ext (quiet_ext (quiet_ext Xok split_Bands.ok) tiles_full.ok) tiles_fits.ok) split_Bands_1.ok) tiles_Cut.deepsOk 100 8).1 (dp_ok mixed (quiet_ext (quiet_ext (quiet_ext (quiet_ext Xok split_Bands.ok) tiles_full.ok) tiles_fits.ok) split_Bands_1.ok) tiles_Cut.deepsOk 100 8).2 Try.func11 (by kernel_rfl) (sok_fn trivial) (by kernel_rfl) (fun x => by kernel_rfl)
theorem tiles_Cut.okF : FrOK Try.prog 11 tiles_Cut.q :=
  entry_fresh (ps := [TPic, TRect]) (rs := [TPiece, TI]) (F := (dp Try.prog (ext (ext (ext (ext Xs 49 split_Bands.q) 50 tiles_full.q) 51 tiles_fits.q) 92 split_Bands_1.q) tiles_Cut.deeps 100 8)) (D := (inL tiles_Cut.deeps.D)) (S := tabS []) (t := tiles_Cut.t) mixed (dp_ok mixed (quiet_ext (quiet_ext (quiet_ext (quiet_ext Xok split_Bands.ok) tiles_full.ok) tiles_fits.ok) split_Bands_1.ok) tiles_Cut.deepsOk 100 8).1 (dp_ok mixed (quiet_ext (quiet_ext (quiet_ext (quiet_ext Xok split_Bands.ok) tiles_full.ok) tiles_fits.ok) split_Bands_1.ok) tiles_Cut.deepsOk 100 8).2 Try.func11 (by kernel_rfl) (sok_fn trivial) (by kernel_rfl) (fun x => by kernel_rfl) entry_run
end Go.Proofs.Pen

namespace Go.Proofs.Pen
open Go Go.Proofs
noncomputable def eachJoin.deeps : Deeps := { D := [57], C := [], frz := false, S := fun _ _ => noS }
theorem eachJoin.deepsOk : LoopsOK Try.prog eachJoin.deeps.S := (loops_none _)
def eachJoin.L2 : List (Nat × Lay) := [(9000, .blk 0 TI), (9001, .oblk 1 [.dat TI, .dat TI, .own .flt, .own TI]), (9002, .oblk 2 [.dat TI, .dat TI, .own .flt, .own TI]), (9003, .bdead 3), (9004, .bdead 4), (9005, .bdead 5), (9006, .bdead 6), (9007, .blk 7 TPiece), (9008, .blk 8 TI), (1, .clo 57 [0, 2, 7, 8]), (2, .box TRect), (4, .val TI), (5, .val TI)]
noncomputable def eachJoin.t2 (x : Int × (Int × Int × List (Option Nat) × List Int × Unit) × (Int × Int × List (Option Nat) × List Int × Unit) × ((Int × Int × Int × Int) × List (Option Nat) × List (Int)) × Int × (Int × Int × Int × Int) × Int × Int × Unit) : T (Ex × Int × (Int × Int × List (Option Nat) × List Int × Unit) × (Int × Int × List (Option Nat) × List Int × Unit) × ((Int × Int × Int × Int) × List (Option Nat) × List (Int)) × Int × (Int × Int × Int × Int) × Int × Int × Unit) := T.ite (decide (x.2.2.2.2.2.2.2.1 < x.2.2.2.2.2.1.2.2.1)) (T.ite (decide ((0 : Int) ≤ W ((3 : Int) * W (W (x.2.2.2.2.2.2.1 * x.1) + x.2.2.2.2.2.2.2.1))) && decide (W ((3 : Int) * W (W (x.2.2.2.2.2.2.1 * x.1) + x.2.2.2.2.2.2.2.1)) ≤ W (W ((3 : Int) * W (W (x.2.2.2.2.2.2.1 * x.1) + x.2.2.2.2.2.2.2.1)) + (3 : Int))) && decide (W (W ((3 : Int) * W (W (x.2.2.2.2.2.2.1 * x.1) + x.2.2.2.2.2.2.2.1)) + (3 : Int)) ≤ W (W ((3 : Int) * W (W (x.2.2.2.2.2.2.1 * x.1) + x.2.2.2.2.2.2.2.1)) + (3 : Int))) && decide (W (W ((3 : Int) * W (W (x.2.2.2.2.2.2.1 * x.1) + x.2.2.2.2.2.2.2.1)) + (3 : Int)) ≤ (↑x.2.2.1.2.2.1.length : Int))) (T.ite (decide ((0 : Int) ≤ W ((3 : Int) * x.2.2.2.2.1)) && decide (W ((3 : Int) * x.2.2.2.2.1) ≤ (↑(List.length x.2.2.2.1.2.1) : Int)) && decide ((↑(List.length x.2.2.2.1.2.1) : Int) ≤ (↑(List.length x.2.2.2.1.2.1) : Int))) (T.opt (lget x.2.2.2.1.2.2 x.2.2.2.2.1) fun y => T.ite (decide ((0 : Int) ≤ W (W (x.2.2.2.2.2.2.1 * x.1) + x.2.2.2.2.2.2.2.1)) && decide (W (W (x.2.2.2.2.2.2.1 * x.1) + x.2.2.2.2.2.2.2.1) < (↑x.2.2.1.2.2.2.1.length : Int))) (T.opt x.2.2.1.2.2.2.1[(0 : Nat) + (W (W (x.2.2.2.2.2.2.1 * x.1) + x.2.2.2.2.2.2.2.1)).toNat]? fun y_1 => T.ret (Ex.normal, x.1, (x.2.1.1, x.2.1.2.1, List.take x.2.1.2.2.1.length x.2.1.2.2.1, List.take x.2.1.2.2.2.1.length x.2.1.2.2.2.1, ()), (x.2.2.1.1, x.2.2.1.2.1, List.take x.2.2.1.2.2.1.length (overL x.2.2.1.2.2.1 ((0 : Nat) + (W ((3 : Int) * W (W (x.2.2.2.2.2.2.1 * x.1) + x.2.2.2.2.2.2.2.1))).toNat) (List.take ((W (W ((3 : Int) * W (W (x.2.2.2.2.2.2.1 * x.1) + x.2.2.2.2.2.2.2.1)) + (3 : Int))).toNat - (W ((3 : Int) * W (W (x.2.2.2.2.2.2.1 * x.1) + x.2.2.2.2.2.2.2.1))).toNat) (List.take ((↑(List.length x.2.2.2.1.2.1) : Int).toNat - (W ((3 : Int) * x.2.2.2.2.1)).toNat) (List.drop (W ((3 : Int) * x.2.2.2.2.1)).toNat x.2.2.2.1.2.1)))), List.take x.2.2.1.2.2.2.1.length (x.2.2.1.2.2.2.1.set ((0 : Nat) + (W (W (x.2.2.2.2.2.2.1 * x.1) + x.2.2.2.2.2.2.2.1)).toNat) y), ()), x.2.2.2.1, W (x.2.2.2.2.1 + (1 : Int)), x.2.2.2.2.2.1, x.2.2.2.2.2.2.1, W (x.2.2.2.2.2.2.2.1 + (1 : Int)), ())) T.fail) T.fail) T.fail) (T.ret (Ex.exit (2 : Nat), x.1, (x.2.1.1, x.2.1.2.1, List.take x.2.1.2.2.1.length x.2.1.2.2.1, List.take x.2.1.2.2.2.1.length x.2.1.2.2.2.1, ()), (x.2.2.1.1, x.2.2.1.2.1, List.take x.2.2.1.2.2.1.length x.2.2.1.2.2.1, List.take x.2.2.1.2.2.2.1.length x.2.2.1.2.2.2.1, ()), x.2.2.2.1, x.2.2.2.2.1, x.2.2.2.2.2.1, x.2.2.2.2.2.2.1, x.2.2.2.2.2.2.2.1, ()))
noncomputable def eachJoin.l2 (x : Int × (Int × Int × List (Option Nat) × List Int × Unit) × (Int × Int × List (Option Nat) × List Int × Unit) × ((Int × Int × Int × Int) × List (Option Nat) × List (Int)) × Int × (Int × Int × Int × Int) × Int × Int × Unit) : Option (Ex × Int × (Int × Int × List (Option Nat) × List Int × Unit) × (Int × Int × List (Option Nat) × List Int × Unit) × ((Int × Int × Int × Int) × List (Option Nat) × List (Int)) × Int × (Int × Int × Int × Int) × Int × Int × Unit) := (iterT eachJoin.t2 rounds x).run
theorem eachJoin.k2 : bodies 2 (lp Try.f52 [0]) = [.loop (loopIn 2 (lp Try.f52 [0]))] ∧ WP Try.prog 9 (.block 2 (.loop (loopIn 2 (lp Try.f52 [0])))) (loopS eachJoin.L2 26 2 [.exit 2] eachJoin.l2) :=
  loop_treeN 9 (L := eachJoin.L2) (F := (dp Try.prog Xs eachJoin.deeps 100 8)) (D := (inL eachJoin.deeps.D)) (tab := []) (t := eachJoin.t2) mixed (dp_ok mixed Xok eachJoin.deepsOk 100 8).1 (dp_ok mixed Xok eachJoin.deepsOk 100 8).2 (fun _ => rfl) (by kernel_rfl) (by kernel_rfl) trivial (fun x => by kernel_rfl)
def eachJoin.L0 : List (Nat × Lay) := [(9000, .blk 0 TI), (9001, .oblk 1 [.dat TI, .dat TI, .own .flt, .own TI]), (9002, .oblk 2 [.dat TI, .dat TI, .own .flt, .own TI]), (9003, .bdead 3), (9004, .bdead 4), (9005, .bdead 5), (9006, .bdead 6), (9007, .blk 7 TPiece), (9008, .blk 8 TI), (1, .clo 57 [0, 2, 7, 8]), (2, .box TRect), (4, .val TI)]
noncomputable def eachJoin.t0 (x : Int × (Int × Int × List (Option Nat) × List Int × Unit) × (Int × Int × List (Option Nat) × List Int × Unit) × ((Int × Int × Int × Int) × List (Option Nat) × List (Int)) × Int × (Int × Int × Int × Int) × Int × Unit) : T (Ex × Int × (Int × Int × List (Option Nat) × List Int × Unit) × (Int × Int × List (Option Nat) × List Int × Unit) × ((Int × Int × Int × Int) × List (Option Nat) × List (Int)) × Int × (Int × Int × Int × Int) × Int × Unit) := T.ite (decide (x.2.2.2.2.2.2.1 < x.2.2.2.2.2.1.2.2.2)) (T.opt (eachJoin.l2 (x.1, (x.2.1.1, x.2.1.2.1, List.take x.2.1.2.2.1.length x.2.1.2.2.1, List.take x.2.1.2.2.2.1.length x.2.1.2.2.2.1, ()), (x.2.2.1.1, x.2.2.1.2.1, List.take x.2.2.1.2.2.1.length x.2.2.1.2.2.1, List.take x.2.2.1.2.2.2.1.length x.2.2.1.2.2.2.1, ()), x.2.2.2.1, x.2.2.2.2.1, x.2.2.2.2.2.1, x.2.2.2.2.2.2.1, x.2.2.2.2.2.1.1, ())) fun y => T.ite (exEq y.1 (Ex.exit (2 : Nat))) (T.ret (Ex.normal, y.2.1, (y.2.2.1.1, y.2.2.1.2.1, List.take y.2.2.1.2.2.1.length y.2.2.1.2.2.1, List.take y.2.2.1.2.2.2.1.length y.2.2.1.2.2.2.1, ()), (y.2.2.2.1.1, y.2.2.2.1.2.1, List.take y.2.2.2.1.2.2.1.length y.2.2.2.1.2.2.1, List.take y.2.2.2.1.2.2.2.1.length y.2.2.2.1.2.2.2.1, ()), y.2.2.2.2.1, y.2.2.2.2.2.1, y.2.2.2.2.2.2.1, W (y.2.2.2.2.2.2.2.1 + (1 : Int)), ())) T.fail) (T.ret (Ex.exit (0 : Nat), x.1, (x.2.1.1, x.2.1.2.1, List.take x.2.1.2.2.1.length x.2.1.2.2.1, List.take x.2.1.2.2.2.1.length x.2.1.2.2.2.1, ()), (x.2.2.1.1, x.2.2.1.2.1, List.take x.2.2.1.2.2.1.length x.2.2.1.2.2.1, List.take x.2.2.1.2.2.2.1.length x.2.2.1.2.2.2.1, ()), x.2.2.2.1, x.2.2.2.2.1, x.2.2.2.2.2.1, x.2.2.2.2.2.2.1, ()))
noncomputable def eachJoin.l0 (x : Int × (Int × Int × List (Option Nat) × List Int × Unit) × (Int × Int × List (Option Nat) × List Int × Unit) × ((Int × Int × Int × Int) × List (Option Nat) × List (Int)) × Int × (Int × Int × Int × Int) × Int × Unit) : Option (Ex × Int × (Int × Int × List (Option Nat) × List Int × Unit) × (Int × Int × List (Option Nat) × List Int × Unit) × ((Int × Int × Int × Int) × List (Option Nat) × List (Int)) × Int × (Int × Int × Int × Int) × Int × Unit) := (iterT eachJoin.t0 rounds x).run
theorem eachJoin.k0 : bodies 0 (lp Try.f52 []) = [.loop (loopIn 0 (lp Try.f52 []))] ∧ WP Try.prog 9 (.block 0 (.loop (loopIn 0 (lp Try.f52 [])))) (loopS eachJoin.L0 26 0 [.exit 0] eachJoin.l0) :=
  loop_treeN 9 (L := eachJoin.L0) (F := (dp Try.prog Xs eachJoin.deeps 100 8)) (D := (inL eachJoin.deeps.D)) (tab := [(2, loopS eachJoin.L2 26 2 [.exit 2] eachJoin.l2)]) (t := eachJoin.t0) mixed (dp_ok mixed Xok eachJoin.deepsOk 100 8).1 (dp_ok mixed Xok eachJoin.deepsOk 100 8).2 (fun _ => rfl) (by kernel_rfl) (by kernel_rfl) ⟨eachJoin.k2, trivial⟩ (fun x => by kernel_rfl)
noncomputable def eachJoin.S : List (Nat × (St → T (Ex × St))) := [(0, loopS eachJoin.L0 26 0 [.exit 0] eachJoin.l0)]
theorem eachJoin.tab : TabOK Try.prog 9 (codeOf Try.f52) eachJoin.S := ⟨eachJoin.k0, trivial⟩
end Go.Proofs.Pen

namespace Go.Proofs.Pen
open Go Go.Proofs
noncomputable def split_Size.t (x : (Int × Int × Int × Int)) : T (Int) := T.ite (decide (x.2.2.1 ≤ x.1) || decide (x.2.2.2 ≤ x.2.1)) (T.ret (0 : Int)) (T.ret (W (W (x.2.2.1 - x.1) * W (x.2.2.2 - x.2.1))))
noncomputable def split_Size (x : (Int × Int × Int × Int)) : Option (Int) := (split_Size.t x).run
noncomputable def split_Size.q : List AV → T AV := entry [TRect] (outR [TI]) fun x => .opt (split_Size x) .ret
theorem split_Size.ok : FnOK Try.prog 55 split_Size.q :=
  entry_call (ps := [TRect]) (rs := [TI]) (F := ({ quiet := Xs, deep := noDeep } : Fns)) (D := D0) (S := tabS []) (t := split_Size.t) mixed Xok (deep_none _) Try.func55 (by kernel_rfl) (sok_fn trivial) (by kernel_rfl) (fun x => by kernel_rfl)
end Go.Proofs.Pen

namespace Go.Proofs.Pen
open Go Go.Proofs
def split_Whole.L2 : List (Nat × Lay) := [(2, .val (.sl TRect)), (6, .val .bool), (7, .box TRect), (8, .val TI), (10, .box TRect), (29, .val (.sl TRect)), (30, .val TI), (31, .val TI), (51, .val (.sl TRect)), (52, .val TI), (53, .val TI)]
noncomputable def split_Whole.t2 (x : (List (Int × Int × Int × Int)) × Bool × (Int × Int × Int × Int) × Int × (Int × Int × Int × Int) × (List (Int × Int × Int × Int)) × Int × Int × (List (Int × Int × Int × Int)) × Int × Int × Unit) : T (Ex × (List (Int × Int × Int × Int)) × Bool × (Int × Int × Int × Int) × Int × (Int × Int × Int × Int) × (List (Int × Int × Int × Int)) × Int × Int × (List (Int × Int × Int × Int)) × Int × Int × Unit) := T.ite (decide (x.2.2.2.2.2.2.2.2.2.2.1 < x.2.2.2.2.2.2.2.2.2.1)) (T.opt (lget x.2.2.2.2.2.2.2.2.1 x.2.2.2.2.2.2.2.2.2.2.1) fun y => T.opt (split_Meet (x.2.2.2.2.1, y)) fun y => T.ite y.2 (T.ret (Ex.ret, x.1, false, x.2.2.1, x.2.2.2.1, x.2.2.2.2.1, x.2.2.2.2.2.1, x.2.2.2.2.2.2.1, x.2.2.2.2.2.2.2.1, x.2.2.2.2.2.2.2.2.1, x.2.2.2.2.2.2.2.2.2.1, x.2.2.2.2.2.2.2.2.2.2.1, ())) (T.ret (Ex.normal, x.1, x.2.1, x.2.2.1, x.2.2.2.1, x.2.2.2.2.1, x.2.2.2.2.2.1, x.2.2.2.2.2.2.1, x.2.2.2.2.2.2.2.1, x.2.2.2.2.2.2.2.2.1, x.2.2.2.2.2.2.2.2.2.1, W (x.2.2.2.2.2.2.2.2.2.2.1 + (1 : Int)), ()))) (T.ret (Ex.exit (2 : Nat), x.1, x.2.1, x.2.2.1, x.2.2.2.1, x.2.2.2.2.1, x.2.2.2.2.2.1, x.2.2.2.2.2.2.1, x.2.2.2.2.2.2.2.1, x.2.2.2.2.2.2.2.2.1, x.2.2.2.2.2.2.2.2.2.1, x.2.2.2.2.2.2.2.2.2.2.1, ()))
noncomputable def split_Whole.l2 (x : (List (Int × Int × Int × Int)) × Bool × (Int × Int × Int × Int) × Int × (Int × Int × Int × Int) × (List (Int × Int × Int × Int)) × Int × Int × (List (Int × Int × Int × Int)) × Int × Int × Unit) : Option (Ex × (List (Int × Int × Int × Int)) × Bool × (Int × Int × Int × Int) × Int × (Int × Int × Int × Int) × (List (Int × Int × Int × Int)) × Int × Int × (List (Int × Int × Int × Int)) × Int × Int × Unit) := (iterT split_Whole.t2 rounds x).run
theorem split_Whole.k2 : bodies 2 (lp Try.f56 [0]) = [.loop (loopIn 2 (lp Try.f56 [0]))] ∧ WP Try.prog 0 (.block 2 (.loop (loopIn 2 (lp Try.f56 [0])))) (loopS split_Whole.L2 74 2 [.exit 2, .ret] split_Whole.l2) :=
  loop_tree (L := split_Whole.L2) (F := ({ quiet := (ext (ext (ext Xs 54 split_may.q) 93 split_Meet.q) 55 split_Size.q), deep := noDeep } : Fns)) (D := D0) (tab := []) (t := split_Whole.t2) mixed (quiet_ext (quiet_ext (quiet_ext Xok split_may.ok) split_Meet.ok) split_Size.ok) (deep_none _) (fun _ => rfl) (by kernel_rfl) (by kernel_rfl) trivial (fun x => by kernel_rfl)
def split_Whole.L0 : List (Nat × Lay) := [(2, .val (.sl TRect)), (6, .val .bool), (7, .box TRect), (8, .val TI), (29, .val (.sl TRect)), (30, .val TI), (31, .val TI)]
noncomputable def split_Whole.t0 (x : (List (Int × Int × Int × Int)) × Bool × (Int × Int × Int × Int) × Int × (List (Int × Int × Int × Int)) × Int × Int × Unit) : T (Ex × (List (Int × Int × Int × Int)) × Bool × (Int × Int × Int × Int) × Int × (List (Int × Int × Int × Int)) × Int × Int × Unit) := T.ite (decide (x.2.2.2.2.2.2.1 < x.2.2.2.2.2.1)) (T.opt (lget x.2.2.2.2.1 x.2.2.2.2.2.2.1) fun y => T.opt (split_Meet (y, x.2.2.1)) fun y_1 => T.ite (!y_1.snd || !(y_1.fst.fst == y.1 && (y_1.fst.snd.fst == y.2.1 && (y_1.fst.snd.snd.fst == y.2.2.1 && y_1.fst.snd.snd.snd == y.2.2.2)))) (T.ret (Ex.ret, x.1, false, x.2.2.1, x.2.2.2.1, x.2.2.2.2.1, x.2.2.2.2.2.1, x.2.2.2.2.2.2.1, ())) (T.ite (decide ((0 : Int) ≤ (0 : Int)) && decide ((0 : Int) ≤ x.2.2.2.2.2.2.1) && decide (x.2.2.2.2.2.2.1 ≤ (↑(List.length x.1) : Int))) (T.opt (split_Whole.l2 (x.1, x.2.1, x.2.2.1, x.2.2.2.1, y, x.2.2.2.2.1, x.2.2.2.2.2.1, x.2.2.2.2.2.2.1, List.take (Int.toNat x.2.2.2.2.2.2.1 - Int.toNat (0 : Int)) (List.drop (Int.toNat (0 : Int)) x.1), (↑(List.take (Int.toNat x.2.2.2.2.2.2.1 - Int.toNat (0 : Int)) (List.drop (Int.toNat (0 : Int)) x.1)).length : Int), (0 : Int), ())) fun y => T.ite (exEq y.1 (Ex.exit (2 : Nat))) (T.opt (split_Size y.2.2.2.2.2.1) fun y_2 => T.ret (Ex.normal, y.2.1, y.2.2.1, y.2.2.2.1, W (y.2.2.2.2.1 + y_2), y.2.2.2.2.2.2.1, y.2.2.2.2.2.2.2.1, W (y.2.2.2.2.2.2.2.2.1 + (1 : Int)), ())) (T.ite (exEq y.1 Ex.ret) (T.ret (Ex.ret, y.2.1, y.2.2.1, y.2.2.2.1, y.2.2.2.2.1, y.2.2.2.2.2.2.1, y.2.2.2.2.2.2.2.1, y.2.2.2.2.2.2.2.2.1, ())) T.fail)) T.fail)) (T.ret (Ex.exit (0 : Nat), x.1, x.2.1, x.2.2.1, x.2.2.2.1, x.2.2.2.2.1, x.2.2.2.2.2.1, x.2.2.2.2.2.2.1, ()))
noncomputable def split_Whole.l0 (x : (List (Int × Int × Int × Int)) × Bool × (Int × Int × Int × Int) × Int × (List (Int × Int × Int × Int)) × Int × Int × Unit) : Option (Ex × (List (Int × Int × Int × Int)) × Bool × (Int × Int × Int × Int) × Int × (List (Int × Int × Int × Int)) × Int × Int × Unit) := (iterT split_Whole.t0 rounds x).run
theorem split_Whole.k0 : bodies 0 (lp Try.f56 []) = [.loop (loopIn 0 (lp Try.f56 []))] ∧ WP Try.prog 0 (.block 0 (.loop (loopIn 0 (lp Try.f56 [])))) (loopS split_Whole.L0 74 0 [.exit 0, .ret] split_Whole.l0) :=
  loop_tree (L := split_Whole.L0) (F := ({ quiet := (ext (ext (ext Xs 54 split_may.q) 93 split_Meet.q) 55 split_Size.q), deep := noDeep } : Fns)) (D := D0) (tab := [(2, loopS split_Whole.L2 74 2 [.exit 2, .ret] split_Whole.l2)]) (t := split_Whole.t0) mixed (quiet_ext (quiet_ext (quiet_ext Xok split_may.ok) split_Meet.ok) split_Size.ok) (deep_none _) (fun _ => rfl) (by kernel_rfl) (by kernel_rfl) ⟨split_Whole.k2, trivial⟩ (fun x => by kernel_rfl)
noncomputable def split_Whole.t (x : Int × Int × (List (Int × Int × Int × Int))) : T (Bool) := T.ite (!(decide ((if x.2.1 < x.1 then x.2.1 else x.1) ≥ (1 : Int)) && decide ((if x.2.1 > x.1 then x.2.1 else x.1) ≤ (8192 : Int)) && decide (W (x.1 * x.2.1) ≤ (65536 : Int))) || decide ((↑(List.length x.2.2) : Int) > (4096 : Int))) (T.ret false) (T.opt (split_Whole.l0 (x.2.2, false, ((0 : Int), (0 : Int), x.1, x.2.1), (0 : Int), x.2.2, (↑(List.length x.2.2) : Int), (0 : Int), ())) fun y => T.ite (exEq y.1 (Ex.exit (0 : Nat))) (T.opt (split_Size y.2.2.2.1) fun y_1 => T.ret (y.2.2.2.2.1 == y_1)) (T.ite (exEq y.1 Ex.ret) (T.ret y.2.2.1) T.fail))
noncomputable def split_Whole (x : Int × Int × (List (Int × Int × Int × Int))) : Option (Bool) := (split_Whole.t x).run
noncomputable def split_Whole.q : List AV → T AV := entry [TI, TI, (.sl TRect)] (outR [.bool]) fun x => .opt (split_Whole x) .ret
theorem split_Whole.ok : FnOK Try.prog 56 split_Whole.q :=
  entry_call (ps := [TI, TI, (.sl TRect)]) (rs := [.bool]) (F := ({ quiet := (ext (ext (ext Xs 54 split_may.q) 93 split_Meet.q) 55 split_Size.q), deep := noDeep } : Fns)) (D := D0) (S := tabS [(0, loopS split_Whole.L0 74 0 [.exit 0, .ret] split_Whole.l0)]) (t := split_Whole.t) mixed (quiet_ext (quiet_ext (quiet_ext Xok split_may.ok) split_Meet.ok) split_Size.ok) (deep_none _) Try.func56 (by kernel_rfl) (sok_fn ⟨split_Whole.k0, trivial⟩) (by kernel_rfl) (fun x => by kernel_rfl)
end Go.Proofs.Pen

namespace Go.Proofs.Pen
open Go Go.Proofs
noncomputable def tiles_Join.deeps : Deeps := { D := [52, 57], C := [], frz := false, S := extSn (fun _ _ => noS) 52 9 (tabS eachJoin.S) }
theorem tiles_Join.deepsOk : LoopsOK Try.prog tiles_Join.deeps.S := (loops_extn (loops_none _) Try.func52 eachJoin.tab)
def tiles_Join.L0 : List (Nat × Lay) := [(1, .val TI), (2, .val (.sl TPiece)), (3, .box TI), (6, .obx [.dat TI, .dat TI, .own .flt, .own TI]), (7, .val TI), (8, .row TRect), (15, .val (.sl TPiece)), (16, .val TI), (17, .val TI)]
noncomputable def tiles_Join.t0 (x : Int × (List ((Int × Int × Int × Int) × List (Option Nat) × List (Int))) × Int × (Int × Int × List (Option Nat) × List Int × Unit) × Int × List (Int × Int × Int × Int) × (List ((Int × Int × Int × Int) × List (Option Nat) × List (Int))) × Int × Int × Unit) : T (Ex × Int × (List ((Int × Int × Int × Int) × List (Option Nat) × List (Int))) × Int × (Int × Int × List (Option Nat) × List Int × Unit) × Int × List (Int × Int × Int × Int) × (List ((Int × Int × Int × Int) × List (Option Nat) × List (Int))) × Int × Int × Unit) := T.ite (decide (x.2.2.2.2.2.2.2.2.1 < x.2.2.2.2.2.2.2.1)) (T.opt (lget x.2.2.2.2.2.2.1 x.2.2.2.2.2.2.2.2.1) fun y => T.opt (split_Size y.1) fun y_1 => T.ite (!((↑y.2.1.length : Int) == W ((3 : Int) * y_1) && (↑y.2.2.length : Int) == y_1)) (T.ret (Ex.ret, x.1, x.2.1, x.2.2.1, ((0 : Int), (0 : Int), [], [], ()), (14 : Int), List.take x.2.2.2.2.2.1.length x.2.2.2.2.2.1, x.2.2.2.2.2.2.1, x.2.2.2.2.2.2.2.1, x.2.2.2.2.2.2.2.2.1, ())) (T.ite (decide ((x.2.2.2.2.2.1.length + (1 : Nat)) * nat_lit 32 ≤ most)) (T.ret (Ex.normal, x.1, x.2.1, x.2.2.1, (x.2.2.2.1.1, x.2.2.2.1.2.1, List.take x.2.2.2.1.2.2.1.length x.2.2.2.1.2.2.1, List.take x.2.2.2.1.2.2.2.1.length x.2.2.2.1.2.2.2.1, ()), x.2.2.2.2.1, List.take (x.2.2.2.2.2.1.length + (1 : Nat)) (List.take x.2.2.2.2.2.1.length x.2.2.2.2.2.1 ++ [y.1]), x.2.2.2.2.2.2.1, x.2.2.2.2.2.2.2.1, W (x.2.2.2.2.2.2.2.2.1 + (1 : Int)), ())) T.fail)) (T.ret (Ex.exit (0 : Nat), x.1, x.2.1, x.2.2.1, (x.2.2.2.1.1, x.2.2.2.1.2.1, List.take x.2.2.2.1.2.2.1.length x.2.2.2.1.2.2.1, List.take x.2.2.2.1.2.2.2.1.length x.2.2.2.1.2.2.2.1, ()), x.2.2.2.2.1, List.take x.2.2.2.2.2.1.length x.2.2.2.2.2.1, x.2.2.2.2.2.2.1, x.2.2.2.2.2.2.2.1, x.2.2.2.2.2.2.2.2.1, ()))
noncomputable def tiles_Join.l0 (x : Int × (List ((Int × Int × Int × Int) × List (Option Nat) × List (Int))) × Int × (Int × Int × List (Option Nat) × List Int × Unit) × Int × List (Int × Int × Int × Int) × (List ((Int × Int × Int × Int) × List (Option Nat) × List (Int))) × Int × Int × Unit) : Option (Ex × Int × (List ((Int × Int × Int × Int) × List (Option Nat) × List (Int))) × Int × (Int × Int × List (Option Nat) × List Int × Unit) × Int × List (Int × Int × Int × Int) × (List ((Int × Int × Int × Int) × List (Option Nat) × List (Int))) × Int × Int × Unit) := (iterT tiles_Join.t0 rounds x).run
theorem tiles_Join.k0 : bodies 0 (lp Try.f16 []) = [.loop (loopIn 0 (lp Try.f16 []))] ∧ WP Try.prog 0 (.block 0 (.loop (loopIn 0 (lp Try.f16 [])))) (loopS tiles_Join.L0 67 0 [.exit 0, .ret] tiles_Join.l0) :=
  loop_tree (L := tiles_Join.L0) (F := (dp Try.prog (ext (ext (ext Xs 55 split_Size.q) 50 tiles_full.q) 56 split_Whole.q) tiles_Join.deeps 100 8)) (D := (inL tiles_Join.deeps.D)) (tab := []) (t := tiles_Join.t0) mixed (dp_ok mixed (quiet_ext (quiet_ext (quiet_ext Xok split_Size.ok) tiles_full.ok) split_Whole.ok) tiles_Join.deepsOk 100 8).1 (dp_ok mixed (quiet_ext (quiet_ext (quiet_ext Xok split_Size.ok) tiles_full.ok) split_Whole.ok) tiles_Join.deepsOk 100 8).2 (fun _ => rfl) (by kernel_rfl) (by kernel_rfl) trivial (fun x => by kernel_rfl)
def tiles_Join.L2 : List (Nat × Lay) := [(3, .box TI), (6, .obx [.dat TI, .dat TI, .own .flt, .own TI]), (11, .obx [.dat TI, .dat TI, .own .flt, .own TI]), (55, .val (.sl TPiece)), (56, .val TI), (57, .val TI)]
noncomputable def tiles_Join.t2 (x : Int × (Int × Int × List (Option Nat) × List Int × Unit) × (Int × Int × List (Option Nat) × List Int × Unit) × (List ((Int × Int × Int × Int) × List (Option Nat) × List (Int))) × Int × Int × Unit) : T (Ex × Int × (Int × Int × List (Option Nat) × List Int × Unit) × (Int × Int × List (Option Nat) × List Int × Unit) × (List ((Int × Int × Int × Int) × List (Option Nat) × List (Int))) × Int × Int × Unit) := T.ite (decide (x.2.2.2.2.2.1 < x.2.2.2.2.1)) (T.opt (lget x.2.2.2.1 x.2.2.2.2.2.1) fun y => T.opt (eachJoin.l0 (x.1, (x.2.1.1, x.2.1.2.1, List.take x.2.1.2.2.1.length x.2.1.2.2.1, List.take x.2.1.2.2.2.1.length x.2.1.2.2.2.1, ()), (x.2.2.1.1, x.2.2.1.2.1, List.take x.2.2.1.2.2.1.length x.2.2.1.2.2.1, List.take x.2.2.1.2.2.2.1.length x.2.2.1.2.2.2.1, ()), y, (0 : Int), y.1, y.1.2.1, ())) fun y => T.ite (exEq y.1 (Ex.exit (0 : Nat))) (T.ret (Ex.normal, y.2.1, (y.2.2.1.1, y.2.2.1.2.1, List.take y.2.2.1.2.2.1.length y.2.2.1.2.2.1, List.take y.2.2.1.2.2.2.1.length y.2.2.1.2.2.2.1, ()), (y.2.2.2.1.1, y.2.2.2.1.2.1, List.take y.2.2.2.1.2.2.1.length y.2.2.2.1.2.2.1, List.take y.2.2.2.1.2.2.2.1.length y.2.2.2.1.2.2.2.1, ()), x.2.2.2.1, x.2.2.2.2.1, W (x.2.2.2.2.2.1 + (1 : Int)), ())) T.fail) (T.ret (Ex.exit (2 : Nat), x.1, (x.2.1.1, x.2.1.2.1, List.take x.2.1.2.2.1.length x.2.1.2.2.1, List.take x.2.1.2.2.2.1.length x.2.1.2.2.2.1, ()), (x.2.2.1.1, x.2.2.1.2.1, List.take x.2.2.1.2.2.1.length x.2.2.1.2.2.1, List.take x.2.2.1.2.2.2.1.length x.2.2.1.2.2.2.1, ()), x.2.2.2.1, x.2.2.2.2.1, x.2.2.2.2.2.1, ()))
noncomputable def tiles_Join.l2 (x : Int × (Int × Int × List (Option Nat) × List Int × Unit) × (Int × Int × List (Option Nat) × List Int × Unit) × (List ((Int × Int × Int × Int) × List (Option Nat) × List (Int))) × Int × Int × Unit) : Option (Ex × Int × (Int × Int × List (Option Nat) × List Int × Unit) × (Int × Int × List (Option Nat) × List Int × Unit) × (List ((Int × Int × Int × Int) × List (Option Nat) × List (Int))) × Int × Int × Unit) := (iterT tiles_Join.t2 rounds x).run
theorem tiles_Join.k2 : bodies 2 (lp Try.f16 []) = [.loop (loopIn 2 (lp Try.f16 []))] ∧ WP Try.prog 0 (.block 2 (.loop (loopIn 2 (lp Try.f16 [])))) (loopS tiles_Join.L2 67 2 [.exit 2] tiles_Join.l2) :=
  loop_tree (L := tiles_Join.L2) (F := (dp Try.prog (ext (ext (ext Xs 55 split_Size.q) 50 tiles_full.q) 56 split_Whole.q) tiles_Join.deeps 100 8)) (D := (inL tiles_Join.deeps.D)) (tab := []) (t := tiles_Join.t2) mixed (dp_ok mixed (quiet_ext (quiet_ext (quiet_ext Xok split_Size.ok) tiles_full.ok) split_Whole.ok) tiles_Join.deepsOk 100 8).1 (dp_ok mixed (quiet_ext (quiet_ext (quiet_ext Xok split_Size.ok) tiles_full.ok) split_Whole.ok) tiles_Join.deepsOk 100 8).2 (fun _ => rfl) (by kernel_rfl) (by kernel_rfl) trivial (fun x => by kernel_rfl)
noncomputable def tiles_Join.t (x : Int × Int × (List ((Int × Int × Int × Int) × List (Option Nat) × List (Int)))) : T ((Int × Int × List (Option Nat) × List (Int)) × Int) := T.opt (tiles_Join.l0 (x.2.1, x.2.2, x.1, ((0 : Int), (0 : Int), [], [], ()), (0 : Int), [], x.2.2, (↑(List.length x.2.2) : Int), (0 : Int), ())) fun y => T.ite (exEq y.1 (Ex.exit (0 : Nat))) (T.opt (split_Whole (y.2.2.2.1, y.2.1, List.take y.2.2.2.2.2.2.1.length y.2.2.2.2.2.2.1)) fun y_1 => T.ite (!y_1) (T.ret (((0 : Int), (0 : Int), [], []), (2 : Int))) (T.ite (decide ((0 : Int) ≤ W (W ((3 : Int) * y.2.2.2.1) * y.2.1)) && decide (W (W ((3 : Int) * y.2.2.2.1) * y.2.1) ≤ W (W ((3 : Int) * y.2.2.2.1) * y.2.1)) && decide (W (W ((3 : Int) * y.2.2.2.1) * y.2.1) * (↑(nat_lit 8) : Int) ≤ (↑most : Int)) && decide (W (W ((3 : Int) * y.2.2.2.1) * y.2.1) ≤ (↑most : Int))) (T.ite (decide ((0 : Int) ≤ W (y.2.2.2.1 * y.2.1)) && decide (W (y.2.2.2.1 * y.2.1) ≤ W (y.2.2.2.1 * y.2.1)) && decide (W (y.2.2.2.1 * y.2.1) * (↑(nat_lit 8) : Int) ≤ (↑most : Int)) && decide (W (y.2.2.2.1 * y.2.1) ≤ (↑most : Int))) (T.opt (tiles_Join.l2 (y.2.2.2.1, (y.2.2.2.2.1.1, y.2.2.2.2.1.2.1, List.take y.2.2.2.2.1.2.2.1.length y.2.2.2.2.1.2.2.1, List.take y.2.2.2.2.1.2.2.2.1.length y.2.2.2.2.1.2.2.2.1, ()), (y.2.2.2.1, y.2.1, List.take (W (W ((3 : Int) * y.2.2.2.1) * y.2.1)).toNat (List.replicate (W (W ((3 : Int) * y.2.2.2.1) * y.2.1)).toNat (some (0 : Nat))), List.take (W (y.2.2.2.1 * y.2.1)).toNat (List.replicate (W (y.2.2.2.1 * y.2.1)).toNat (0 : Int)), ()), y.2.2.1, (↑(List.length y.2.2.1) : Int), (0 : Int), ())) fun y => T.ite (exEq y.1 (Ex.exit (2 : Nat))) (T.ret ((y.2.2.2.1.1, y.2.2.2.1.2.1, List.take y.2.2.2.1.2.2.1.length y.2.2.2.1.2.2.1, List.take y.2.2.2.1.2.2.2.1.length y.2.2.2.1.2.2.2.1), (0 : Int))) T.fail) T.fail) T.fail)) (T.ite (exEq y.1 Ex.ret) (T.ret ((y.2.2.2.2.1.1, y.2.2.2.2.1.2.1, List.take y.2.2.2.2.1.2.2.1.length y.2.2.2.2.1.2.2.1, List.take y.2.2.2.2.1.2.2.2.1.length y.2.2.2.2.1.2.2.2.1), y.2.2.2.2.2.1)) T.fail)
noncomputable def tiles_Join (x : Int × Int × (List ((Int × Int × Int × Int) × List (Option Nat) × List (Int)))) : Option ((Int × Int × List (Option Nat) × List (Int)) × Int) := (tiles_Join.t x).run
noncomputable def tiles_Join.q : List AV → T AV := entry [TI, TI, (.sl TPiece)] (outR [TPic, TI]) fun x => .opt (tiles_Join x) .ret
theorem tiles_Join.ok : FnOK Try.prog 16 tiles_Join.q :=
  entry_call (ps := [TI, TI, (.sl TPiece)]) (rs := [TPic, TI]) (F := (dp Try.prog (ext (ext (ext Xs 55 split_Size.q) 50 tiles_full.q) 56 split_Whole.q) tiles_Join.deeps 100 8)) (D := (inL tiles_Join.deeps.D)) (S := tabS [(0, loopS tiles_Join.L0 67 0 [.exit 0, .ret] tiles_Join.l0), (2, loopS tiles_Join.L2 67 2 [.exit 2] tiles_Join.l2)]) (t := tiles_Join.t) mixed (dp_ok mixed (quiet_ext (quiet_ext (quiet_ext Xok split_Size.ok) tiles_full.ok) split_Whole.ok) tiles_Join.deepsOk 100 8).1 (dp_ok mixed (quiet_ext (quiet_ext (quiet_ext Xok split_Size.ok) tiles_full.ok) split_Whole.ok) tiles_Join.deepsOk 100 8).2 Try.func16 (by kernel_rfl) (sok_fn ⟨tiles_Join.k0, tiles_Join.k2, trivial⟩) (by kernel_rfl) (fun x => by kernel_rfl)
theorem tiles_Join.okF : FrOK Try.prog 16 tiles_Join.q :=
  entry_fresh (ps := [TI, TI, (.sl TPiece)]) (rs := [TPic, TI]) (F := (dp Try.prog (ext (ext (ext Xs 55 split_Size.q) 50 tiles_full.q) 56 split_Whole.q) tiles_Join.deeps 100 8)) (D := (inL tiles_Join.deeps.D)) (S := tabS [(0, loopS tiles_Join.L0 67 0 [.exit 0, .ret] tiles_Join.l0), (2, loopS tiles_Join.L2 67 2 [.exit 2] tiles_Join.l2)]) (t := tiles_Join.t) mixed (dp_ok mixed (quiet_ext (quiet_ext (quiet_ext Xok split_Size.ok) tiles_full.ok) split_Whole.ok) tiles_Join.deepsOk 100 8).1 (dp_ok mixed (quiet_ext (quiet_ext (quiet_ext Xok split_Size.ok) tiles_full.ok) split_Whole.ok) tiles_Join.deepsOk 100 8).2 Try.func16 (by kernel_rfl) (sok_fn ⟨tiles_Join.k0, tiles_Join.k2, trivial⟩) (by kernel_rfl) (fun x => by kernel_rfl) entry_run
end Go.Proofs.Pen

namespace Go.Proofs.Pen
open Go Go.Proofs
set_option maxRecDepth 100000
noncomputable def law38_awake.tb : DTab := (tbExt (tbExt tbNone 11 (freshD tiles_Cut.q)) 16 (freshD tiles_Join.q))
theorem law38_awake.tbOk : TBOK Try.prog law38_awake.tb := (tb_ext (tb_ext (tb_none _) (fresh_deep tiles_Cut.okF)) (fresh_deep tiles_Join.okF))
noncomputable def law38_awake.t (_ : Unit) : T (Bool) := T.ret true
noncomputable def law38_awake.q : List AV → T AV := entry [] (outR [.bool]) fun _ => .ret (true : dens [.bool])
theorem law38_awake.ok : FnOK Try.prog 10 law38_awake.q := peT_entry mixed (quiet_ext (quiet_ext Xok tiles_Cut.ok) tiles_Join.ok) [] law38_awake.tbOk 100 20 Try.func10 (by kernel_rfl) (by kernel_rfl)
end Go.Proofs.Pen

namespace Go.Proofs.Pen
open Go Go.Proofs
noncomputable def ref37_May.t (x : Int × Int) : T (Bool) := T.ret (decide (x.1 ≥ (1 : Int)) && decide (x.2 ≥ (1 : Int)) && decide (x.1 ≤ (8192 : Int)) && decide (x.2 ≤ (8192 : Int)) && decide (W (x.1 * x.2) ≤ (65536 : Int)))
noncomputable def ref37_May.q : List AV → T AV := entry [TI, TI] (outR [.bool]) ref37_May.t
theorem ref37_May.ok : FnOK Try.prog 12 ref37_May.q :=
  entry_in (ps := [TI, TI]) (rs := [.bool]) (F := ({ quiet := Xs, deep := noDeep } : Fns)) (D := D0) (S := tabS []) (t := ref37_May.t) mixed Xok (deep_none _) Try.func12 (by kernel_rfl) (sok_fn trivial) (by kernel_rfl) (fun x => by kernel_rfl)
end Go.Proofs.Pen

namespace Go.Proofs.Pen
open Go Go.Proofs
noncomputable def ref37_Fits.t (x : (Int × Int × Int × Int) × Int × Int) : T (Bool) := T.ret (decide (x.1.1 ≥ (0 : Int)) && decide (x.1.2.1 ≥ (0 : Int)) && decide (x.1.2.2.1 > x.1.1) && decide (x.1.2.2.2 > x.1.2.1) && decide (x.1.2.2.1 ≤ x.2.1) && decide (x.1.2.2.2 ≤ x.2.2))
noncomputable def ref37_Fits.q : List AV → T AV := entry [TRect, TI, TI] (outR [.bool]) ref37_Fits.t
theorem ref37_Fits.ok : FnOK Try.prog 13 ref37_Fits.q :=
  entry_in (ps := [TRect, TI, TI]) (rs := [.bool]) (F := ({ quiet := Xs, deep := noDeep } : Fns)) (D := D0) (S := tabS []) (t := ref37_Fits.t) mixed Xok (deep_none _) Try.func13 (by kernel_rfl) (sok_fn trivial) (by kernel_rfl) (fun x => by kernel_rfl)
end Go.Proofs.Pen

namespace Go.Proofs.Pen
open Go Go.Proofs
noncomputable def ref02_Same.t (x : (Option Nat) × (Option Nat)) : T (Bool) := T.ret (ford x.1 x.2 == some Ordering.eq || ford x.1 x.1 != some Ordering.eq && ford x.2 x.2 != some Ordering.eq)
noncomputable def ref02_Same.q : List AV → T AV := entry [.flt, .flt] (outR [.bool]) ref02_Same.t
theorem ref02_Same.ok : FnOK Try.prog 14 ref02_Same.q :=
  entry_in (ps := [.flt, .flt]) (rs := [.bool]) (F := ({ quiet := Xs, deep := noDeep } : Fns)) (D := D0) (S := tabS []) (t := ref02_Same.t) mixed Xok (deep_none _) Try.func14 (by kernel_rfl) (sok_fn trivial) (by kernel_rfl) (fun x => by kernel_rfl)
end Go.Proofs.Pen

namespace Go.Proofs.Pen
open Go Go.Proofs
def split_Tiles.L3 : List (Nat × Lay) := [(0, .val TI), (1, .val TI), (2, .val TI), (8, .row TRect), (9, .val TI), (10, .val TI)]
noncomputable def split_Tiles.t3 (x : Int × Int × Int × List (Int × Int × Int × Int) × Int × Int × Unit) : T (Ex × Int × Int × Int × List (Int × Int × Int × Int) × Int × Int × Unit) := T.ite (decide (x.2.2.2.2.2.1 < x.1)) (T.ite (decide ((x.2.2.2.1.length + (1 : Nat)) * nat_lit 32 ≤ most)) (T.ret (Ex.normal, x.1, x.2.1, x.2.2.1, List.take (x.2.2.2.1.length + (1 : Nat)) (List.take x.2.2.2.1.length x.2.2.2.1 ++ [(x.2.2.2.2.2.1, x.2.2.2.2.1, if x.1 < W (x.2.2.2.2.2.1 + x.2.2.1) then x.1 else W (x.2.2.2.2.2.1 + x.2.2.1), if x.2.1 < W (x.2.2.2.2.1 + x.2.2.1) then x.2.1 else W (x.2.2.2.2.1 + x.2.2.1))]), x.2.2.2.2.1, W (x.2.2.2.2.2.1 + x.2.2.1), ())) T.fail) (T.ret (Ex.exit (3 : Nat), x.1, x.2.1, x.2.2.1, List.take x.2.2.2.1.length x.2.2.2.1, x.2.2.2.2.1, x.2.2.2.2.2.1, ()))
noncomputable def split_Tiles.l3 (x : Int × Int × Int × List (Int × Int × Int × Int) × Int × Int × Unit) : Option (Ex × Int × Int × Int × List (Int × Int × Int × Int) × Int × Int × Unit) := (iterT split_Tiles.t3 rounds x).run
theorem split_Tiles.k3 : bodies 3 (lp Try.f15 [1]) = [.loop (loopIn 3 (lp Try.f15 [1]))] ∧ WP Try.prog 0 (.block 3 (.loop (loopIn 3 (lp Try.f15 [1])))) (loopS split_Tiles.L3 67 3 [.exit 3] split_Tiles.l3) :=
  loop_tree (L := split_Tiles.L3) (F := ({ quiet := (ext Xs 54 split_may.q), deep := noDeep } : Fns)) (D := D0) (tab := []) (t := split_Tiles.t3) mixed (quiet_ext Xok split_may.ok) (deep_none _) (fun _ => rfl) (by kernel_rfl) (by kernel_rfl) trivial (fun x => by kernel_rfl)
def split_Tiles.L1 : List (Nat × Lay) := [(0, .val TI), (1, .val TI), (2, .val TI), (8, .row TRect), (9, .val TI)]
noncomputable def split_Tiles.t1 (x : Int × Int × Int × List (Int × Int × Int × Int) × Int × Unit) : T (Ex × Int × Int × Int × List (Int × Int × Int × Int) × Int × Unit) := T.ite (decide (x.2.2.2.2.1 < x.2.1)) (T.opt (split_Tiles.l3 (x.1, x.2.1, x.2.2.1, List.take x.2.2.2.1.length x.2.2.2.1, x.2.2.2.2.1, (0 : Int), ())) fun y => T.ite (exEq y.1 (Ex.exit (3 : Nat))) (T.ret (Ex.normal, y.2.1, y.2.2.1, y.2.2.2.1, List.take y.2.2.2.2.1.length y.2.2.2.2.1, W (y.2.2.2.2.2.1 + y.2.2.2.1), ())) T.fail) (T.ret (Ex.exit (1 : Nat), x.1, x.2.1, x.2.2.1, List.take x.2.2.2.1.length x.2.2.2.1, x.2.2.2.2.1, ()))
noncomputable def split_Tiles.l1 (x : Int × Int × Int × List (Int × Int × Int × Int) × Int × Unit) : Option (Ex × Int × Int × Int × List (Int × Int × Int × Int) × Int × Unit) := (iterT split_Tiles.t1 rounds x).run
theorem split_Tiles.k1 : bodies 1 (lp Try.f15 []) = [.loop (loopIn 1 (lp Try.f15 []))] ∧ WP Try.prog 0 (.block 1 (.loop (loopIn 1 (lp Try.f15 [])))) (loopS split_Tiles.L1 67 1 [.exit 1] split_Tiles.l1) :=
  loop_tree (L := split_Tiles.L1) (F := ({ quiet := (ext Xs 54 split_may.q), deep := noDeep } : Fns)) (D := D0) (tab := [(3, loopS split_Tiles.L3 67 3 [.exit 3] split_Tiles.l3)]) (t := split_Tiles.t1) mixed (quiet_ext Xok split_may.ok) (deep_none _) (fun _ => rfl) (by kernel_rfl) (by kernel_rfl) ⟨split_Tiles.k3, trivial⟩ (fun x => by kernel_rfl)
noncomputable def split_Tiles.t (x : Int × Int × Int) : T ((List (Int × Int × Int × Int)) × Int) := T.ite (!(decide ((if x.2.1 < x.1 then x.2.1 else x.1) ≥ (1 : Int)) && decide ((if x.2.1 > x.1 then x.2.1 else x.1) ≤ (8192 : Int)) && decide (W (x.1 * x.2.1) ≤ (65536 : Int)))) (T.ret ([], (12 : Int))) (T.ite (decide (x.2.2 < (1 : Int)) || decide (x.2.2 > (8192 : Int))) (T.ret ([], (3 : Int))) (T.ite (x.2.2 == (0 : Int)) T.fail (T.ite (x.2.2 == (0 : Int)) T.fail (T.ite (decide (W (W ((W (W (x.1 + x.2.2) - (1 : Int))).tdiv x.2.2) * W ((W (W (x.2.1 + x.2.2) - (1 : Int))).tdiv x.2.2)) > (4096 : Int))) (T.ret ([], (4 : Int))) (T.opt (split_Tiles.l1 (x.1, x.2.1, x.2.2, [], (0 : Int), ())) fun y => T.ite (exEq y.1 (Ex.exit (1 : Nat))) (T.ret (List.take y.2.2.2.2.1.length y.2.2.2.2.1, (0 : Int))) T.fail)))))
noncomputable def split_Tiles (x : Int × Int × Int) : Option ((List (Int × Int × Int × Int)) × Int) := (split_Tiles.t x).run
noncomputable def split_Tiles.q : List AV → T AV := entry [TI, TI, TI] (outR [(.sl TRect), TI]) fun x => .opt (split_Tiles x) .ret
theorem split_Tiles.ok : FnOK Try.prog 15 split_Tiles.q :=
  entry_call (ps := [TI, TI, TI]) (rs := [(.sl TRect), TI]) (F := ({ quiet := (ext Xs 54 split_may.q), deep := noDeep } : Fns)) (D := D0) (S := tabS [(1, loopS split_Tiles.L1 67 1 [.exit 1] split_Tiles.l1)]) (t := split_Tiles.t) mixed (quiet_ext Xok split_may.ok) (deep_none _) Try.func15 (by kernel_rfl) (sok_fn ⟨split_Tiles.k1, trivial⟩) (by kernel_rfl) (fun x => by kernel_rfl)
end Go.Proofs.Pen

namespace Go.Proofs.Pen
open Go Go.Proofs
def ref21_Floats.L0 : List (Nat × Lay) := [(0, .val (.sl .flt)), (1, .val (.sl .flt)), (4, .val .bool), (5, .val TI)]
noncomputable def ref21_Floats.t0 (x : (List (Option Nat)) × (List (Option Nat)) × Bool × Int × Unit) : T (Ex × (List (Option Nat)) × (List (Option Nat)) × Bool × Int × Unit) := T.ite (decide (x.2.2.2.1 < (↑(List.length x.1) : Int))) (T.opt (lget x.1 x.2.2.2.1) fun y => T.opt (lget x.2.1 x.2.2.2.1) fun y_1 => T.ite (!(ford y y_1 == some Ordering.eq || ford y y != some Ordering.eq && ford y_1 y_1 != some Ordering.eq)) (T.ret (Ex.ret, x.1, x.2.1, false, x.2.2.2.1, ())) (T.ret (Ex.normal, x.1, x.2.1, x.2.2.1, W (x.2.2.2.1 + (1 : Int)), ()))) (T.ret (Ex.exit (0 : Nat), x.1, x.2.1, x.2.2.1, x.2.2.2.1, ()))
noncomputable def ref21_Floats.l0 (x : (List (Option Nat)) × (List (Option Nat)) × Bool × Int × Unit) : Option (Ex × (List (Option Nat)) × (List (Option Nat)) × Bool × Int × Unit) := (iterT ref21_Floats.t0 rounds x).run
theorem ref21_Floats.k0 : bodies 0 (lp Try.f17 []) = [.loop (loopIn 0 (lp Try.f17 []))] ∧ WP Try.prog 0 (.block 0 (.loop (loopIn 0 (lp Try.f17 [])))) (loopS ref21_Floats.L0 27 0 [.exit 0, .ret] ref21_Floats.l0) :=
  loop_tree (L := ref21_Floats.L0) (F := ({ quiet := (ext Xs 14 ref02_Same.q), deep := noDeep } : Fns)) (D := D0) (tab := []) (t := ref21_Floats.t0) mixed (quiet_ext Xok ref02_Same.ok) (deep_none _) (fun _ => rfl) (by kernel_rfl) (by kernel_rfl) trivial (fun x => by kernel_rfl)
noncomputable def ref21_Floats.t (x : (List (Option Nat)) × (List (Option Nat))) : T (Bool) := T.ite ((↑(List.length x.1) : Int) != (↑(List.length x.2) : Int)) (T.ret false) (T.opt (ref21_Floats.l0 (x.1, x.2, false, (0 : Int), ())) fun y => T.ite (exEq y.1 (Ex.exit (0 : Nat))) (T.ret true) (T.ite (exEq y.1 Ex.ret) (T.ret y.2.2.2.1) T.fail))
noncomputable def ref21_Floats (x : (List (Option Nat)) × (List (Option Nat))) : Option (Bool) := (ref21_Floats.t x).run
noncomputable def ref21_Floats.q : List AV → T AV := entry [(.sl .flt), (.sl .flt)] (outR [.bool]) fun x => .opt (ref21_Floats x) .ret
theorem ref21_Floats.ok : FnOK Try.prog 17 ref21_Floats.q :=
  entry_call (ps := [(.sl .flt), (.sl .flt)]) (rs := [.bool]) (F := ({ quiet := (ext Xs 14 ref02_Same.q), deep := noDeep } : Fns)) (D := D0) (S := tabS [(0, loopS ref21_Floats.L0 27 0 [.exit 0, .ret] ref21_Floats.l0)]) (t := ref21_Floats.t) mixed (quiet_ext Xok ref02_Same.ok) (deep_none _) Try.func17 (by kernel_rfl) (sok_fn ⟨ref21_Floats.k0, trivial⟩) (by kernel_rfl) (fun x => by kernel_rfl)
end Go.Proofs.Pen

namespace Go.Proofs.Pen
open Go Go.Proofs
def ref01_Ints.L0 : List (Nat × Lay) := [(0, .val (.sl TI)), (1, .val (.sl TI)), (4, .val .bool), (5, .val TI)]
noncomputable def ref01_Ints.t0 (x : (List (Int)) × (List (Int)) × Bool × Int × Unit) : T (Ex × (List (Int)) × (List (Int)) × Bool × Int × Unit) := T.ite (decide (x.2.2.2.1 < (↑(List.length x.1) : Int))) (T.opt (lget x.1 x.2.2.2.1) fun y => T.opt (lget x.2.1 x.2.2.2.1) fun y_1 => T.ite (y != y_1) (T.ret (Ex.ret, x.1, x.2.1, false, x.2.2.2.1, ())) (T.ret (Ex.normal, x.1, x.2.1, x.2.2.1, W (x.2.2.2.1 + (1 : Int)), ()))) (T.ret (Ex.exit (0 : Nat), x.1, x.2.1, x.2.2.1, x.2.2.2.1, ()))
noncomputable def ref01_Ints.l0 (x : (List (Int)) × (List (Int)) × Bool × Int × Unit) : Option (Ex × (List (Int)) × (List (Int)) × Bool × Int × Unit) := (iterT ref01_Ints.t0 rounds x).run
theorem ref01_Ints.k0 : bodies 0 (lp Try.f18 []) = [.loop (loopIn 0 (lp Try.f18 []))] ∧ WP Try.prog 0 (.block 0 (.loop (loopIn 0 (lp Try.f18 [])))) (loopS ref01_Ints.L0 26 0 [.exit 0, .ret] ref01_Ints.l0) :=
  loop_tree (L := ref01_Ints.L0) (F := ({ quiet := Xs, deep := noDeep } : Fns)) (D := D0) (tab := []) (t := ref01_Ints.t0) mixed Xok (deep_none _) (fun _ => rfl) (by kernel_rfl) (by kernel_rfl) trivial (fun x => by kernel_rfl)
noncomputable def ref01_Ints.t (x : (List (Int)) × (List (Int))) : T (Bool) := T.ite ((↑(List.length x.1) : Int) != (↑(List.length x.2) : Int)) (T.ret false) (T.opt (ref01_Ints.l0 (x.1, x.2, false, (0 : Int), ())) fun y => T.ite (exEq y.1 (Ex.exit (0 : Nat))) (T.ret true) (T.ite (exEq y.1 Ex.ret) (T.ret y.2.2.2.1) T.fail))
noncomputable def ref01_Ints (x : (List (Int)) × (List (Int))) : Option (Bool) := (ref01_Ints.t x).run
noncomputable def ref01_Ints.q : List AV → T AV := entry [(.sl TI), (.sl TI)] (outR [.bool]) fun x => .opt (ref01_Ints x) .ret
theorem ref01_Ints.ok : FnOK Try.prog 18 ref01_Ints.q :=
  entry_call (ps := [(.sl TI), (.sl TI)]) (rs := [.bool]) (F := ({ quiet := Xs, deep := noDeep } : Fns)) (D := D0) (S := tabS [(0, loopS ref01_Ints.L0 26 0 [.exit 0, .ret] ref01_Ints.l0)]) (t := ref01_Ints.t) mixed Xok (deep_none _) Try.func18 (by kernel_rfl) (sok_fn ⟨ref01_Ints.k0, trivial⟩) (by kernel_rfl) (fun x => by kernel_rfl)
end Go.Proofs.Pen

namespace Go.Proofs.Pen
open Go Go.Proofs
noncomputable def law38_TilesCuts.deeps : Deeps := { D := [16], C := [], frz := false, S := fun _ _ => noS }
theorem law38_TilesCuts.deepsOk : LoopsOK Try.prog law38_TilesCuts.deeps.S := (loops_none _)
noncomputable def law38_TilesCuts.tb : DTab := (tbExt tbNone 16 (freshD tiles_Join.q))
theorem law38_TilesCuts.tbOk : TBOK Try.prog law38_TilesCuts.tb := (tb_ext (tb_none _) (fresh_deep tiles_Join.okF))
def law38_TilesCuts.L0 : List (Nat × Lay) := [(3, .box TPic), (6, .val .bool), (9, .val (.sl TRect)), (10, .val TI), (11, .row TPiece), (12, .val TI)]
noncomputable def law38_TilesCuts.t0 (x : (Int × Int × List (Option Nat) × List (Int)) × Bool × (List (Int × Int × Int × Int)) × Int × List ((Int × Int × Int × Int) × List (Option Nat) × List (Int)) × Int × Unit) : T (Ex × (Int × Int × List (Option Nat) × List (Int)) × Bool × (List (Int × Int × Int × Int)) × Int × List ((Int × Int × Int × Int) × List (Option Nat) × List (Int)) × Int × Unit) := T.ite (decide (x.2.2.2.2.2.1 ≥ (0 : Int))) (T.opt (lget x.2.2.1 x.2.2.2.2.2.1) fun y => T.opt (tiles_Cut (x.1, y)) fun y => T.ite (y.2 != (0 : Int)) (T.ret (Ex.ret, x.1, false, x.2.2.1, x.2.2.2.1, List.take x.2.2.2.2.1.length x.2.2.2.2.1, x.2.2.2.2.2.1, ())) (T.ite (decide ((x.2.2.2.2.1.length + (1 : Nat)) * nat_lit 80 ≤ most)) (T.ret (Ex.normal, x.1, x.2.1, x.2.2.1, x.2.2.2.1, List.take (x.2.2.2.2.1.length + (1 : Nat)) (List.take x.2.2.2.2.1.length x.2.2.2.2.1 ++ [y.1]), W (x.2.2.2.2.2.1 - (1 : Int)), ())) T.fail)) (T.ret (Ex.exit (0 : Nat), x.1, x.2.1, x.2.2.1, x.2.2.2.1, List.take x.2.2.2.2.1.length x.2.2.2.2.1, x.2.2.2.2.2.1, ()))
noncomputable def law38_TilesCuts.l0 (x : (Int × Int × List (Option Nat) × List (Int)) × Bool × (List (Int × Int × Int × Int)) × Int × List ((Int × Int × Int × Int) × List (Option Nat) × List (Int)) × Int × Unit) : Option (Ex × (Int × Int × List (Option Nat) × List (Int)) × Bool × (List (Int × Int × Int × Int)) × Int × List ((Int × Int × Int × Int) × List (Option Nat) × List (Int)) × Int × Unit) := (iterT law38_TilesCuts.t0 rounds x).run
theorem law38_TilesCuts.k0 : bodies 0 (lp Try.f3 []) = [.loop (loopIn 0 (lp Try.f3 []))] ∧ WP Try.prog 0 (.block 0 (.loop (loopIn 0 (lp Try.f3 [])))) (loopS law38_TilesCuts.L0 245 0 [.exit 0, .ret] law38_TilesCuts.l0) :=
  loop_tree (L := law38_TilesCuts.L0) (F := (dpT Try.prog (ext (ext (ext (ext (ext (ext (ext (ext (ext Xs 10 law38_awake.q) 11 tiles_Cut.q) 12 ref37_May.q) 13 ref37_Fits.q) 14 ref02_Same.q) 15 split_Tiles.q) 17 ref21_Floats.q) 18 ref01_Ints.q) 92 split_Bands_1.q) law38_TilesCuts.deeps law38_TilesCuts.tb 100 8)) (D := (inL law38_TilesCuts.deeps.D)) (tab := []) (t := law38_TilesCuts.t0) mixed (dpT_ok mixed (quiet_ext (quiet_ext (quiet_ext (quiet_ext (quiet_ext (quiet_ext (quiet_ext (quiet_ext (quiet_ext Xok law38_awake.ok) tiles_Cut.ok) ref37_May.ok) ref37_Fits.ok) ref02_Same.ok) split_Tiles.ok) ref21_Floats.ok) ref01_Ints.ok) split_Bands_1.ok) law38_TilesCuts.deepsOk law38_TilesCuts.tbOk 100 8).1 (dpT_ok mixed (quiet_ext (quiet_ext (quiet_ext (quiet_ext (quiet_ext (quiet_ext (quiet_ext (quiet_ext (quiet_ext Xok law38_awake.ok) tiles_Cut.ok) ref37_May.ok) ref37_Fits.ok) ref02_Same.ok) split_Tiles.ok) ref21_Floats.ok) ref01_Ints.ok) split_Bands_1.ok) law38_TilesCuts.deepsOk law38_TilesCuts.tbOk 100 8).2 (fun _ => rfl) (by kernel_rfl) (by kernel_rfl) trivial (fun x => by kernel_rfl)
noncomputable def law38_TilesCuts.t (x : (Int × Int × List (Option Nat) × List (Int)) × Int × (Int × Int × Int × Int)) : T (Bool) := T.ite (decide ((↑(List.length x.1.2.2.1) : Int) > (300 : Int)) || decide ((↑(List.length x.1.2.2.2) : Int) > (100 : Int))) (T.ret true) (T.opt (tiles_Cut (x.1, x.2.2)) fun y => T.ite (!(decide (x.1.1 ≥ (1 : Int)) && decide (x.1.2.1 ≥ (1 : Int)) && decide (x.1.1 ≤ (8192 : Int)) && decide (x.1.2.1 ≤ (8192 : Int)) && decide (W (x.1.1 * x.1.2.1) ≤ (65536 : Int))) || (↑(List.length x.1.2.2.1) : Int) != W (W ((3 : Int) * x.1.1) * x.1.2.1) || (↑(List.length x.1.2.2.2) : Int) != W (x.1.1 * x.1.2.1)) (T.ret (y.2 == (14 : Int) && (↑(List.length y.1.2.1) : Int) == (0 : Int))) (T.ite (!(decide (x.2.2.1 ≥ (0 : Int)) && decide (x.2.2.2.1 ≥ (0 : Int)) && decide (x.2.2.2.2.1 > x.2.2.1) && decide (x.2.2.2.2.2 > x.2.2.2.1) && decide (x.2.2.2.2.1 ≤ x.1.1) && decide (x.2.2.2.2.2 ≤ x.1.2.1))) (T.ite (y.2 != (3 : Int) || (↑(List.length y.1.2.1) : Int) != (0 : Int)) (T.ret false) (T.opt (split_Tiles (x.1.1, x.1.2.1, W (W (Int.tmod x.2.1 (5 : Int)) + (1 : Int)))) fun y => T.opt (law38_TilesCuts.l0 (x.1, false, y.1, y.2, [], W ((↑(List.length y.1) : Int) - (1 : Int)), ())) fun y => T.ite (exEq y.1 (Ex.exit (0 : Nat))) (T.opt (tiles_Join (y.2.1.1, y.2.1.2.1, List.take y.2.2.2.2.2.1.length y.2.2.2.2.2.1)) fun y_1 => T.ite (y.2.2.2.2.1 != (0 : Int) || y_1.snd != (0 : Int) || (↑(List.length y_1.fst.snd.snd.fst) : Int) != (↑(List.length y.2.1.2.2.1) : Int)) (T.ret false) (T.opt (ref21_Floats (y_1.fst.snd.snd.fst, y.2.1.2.2.1)) fun y_2 => T.ite (!y_2) (T.ret false) (T.opt (ref01_Ints (y_1.fst.snd.snd.snd, y.2.1.2.2.2)) fun y_3 => T.ite (!y_3) (T.ret false) (T.ite (decide ((0 : Int) ≤ (1 : Int)) && decide ((1 : Int) ≤ (↑y.2.2.2.2.2.1.length : Int)) && decide ((↑y.2.2.2.2.2.1.length : Int) ≤ (↑y.2.2.2.2.2.1.length : Int))) (T.opt (tiles_Join (y.2.1.1, y.2.1.2.1, List.take ((↑y.2.2.2.2.2.1.length : Int).toNat - Int.toNat (1 : Int)) (List.drop ((0 : Nat) + Int.toNat (1 : Int)) y.2.2.2.2.2.1))) fun y_4 => T.ite (decide ((0 : Int) ≤ (0 : Int)) && decide ((0 : Int) < (↑y.2.2.2.2.2.1.length : Int))) (T.opt y.2.2.2.2.2.1[(0 : Nat) + Int.toNat (0 : Int)]? fun y_5 => T.ite (decide ((0 : Int) ≤ (1 : Int)) && decide ((1 : Int) ≤ (↑(List.length y_5.snd.fst) : Int)) && decide ((↑(List.length y_5.snd.fst) : Int) ≤ (↑(List.length y_5.snd.fst) : Int))) (T.ite (decide (((0 : Nat) + (List.take ((↑(List.length y_5.snd.fst) : Int).toNat - Int.toNat (1 : Int)) (List.drop (Int.toNat (1 : Int)) y_5.snd.fst)).length) * nat_lit 8 ≤ most)) (T.ite (decide ((0 : Int) ≤ (0 : Int)) && decide ((0 : Int) < (↑y.2.2.2.2.2.1.length : Int))) (T.opt y.2.2.2.2.2.1[(0 : Nat) + Int.toNat (0 : Int)]? fun y_6 => T.opt (tiles_Join (y.2.1.1, y.2.1.2.1, List.take y.2.2.2.2.2.1.length (y.2.2.2.2.2.1.set ((0 : Nat) + Int.toNat (0 : Int)) (y_6.fst, List.take ((0 : Nat) + (List.take ((↑(List.length y_5.snd.fst) : Int).toNat - Int.toNat (1 : Int)) (List.drop (Int.toNat (1 : Int)) y_5.snd.fst)).length) (List.take (0 : Nat) [] ++ List.take ((↑(List.length y_5.snd.fst) : Int).toNat - Int.toNat (1 : Int)) (List.drop (Int.toNat (1 : Int)) y_5.snd.fst)), y_6.snd.snd)))) fun y => T.ret (y_4.snd == (2 : Int) && y.2 == (14 : Int))) T.fail) T.fail) T.fail) T.fail) T.fail)))) (T.ite (exEq y.1 Ex.ret) (T.ret y.2.2.1) T.fail))) (T.ite (y.2 != (0 : Int) || (↑(List.length y.1.2.2) : Int) != W (W (x.2.2.2.2.1 - x.2.2.1) * W (x.2.2.2.2.2 - x.2.2.2.1))) (T.ret false) (T.opt (lget y.1.2.1 (0 : Int)) fun y => T.opt (lget x.1.2.2.1 (W ((3 : Int) * W (W (x.2.2.2.1 * x.1.1) + x.2.2.1)))) fun y_1 => T.ite (!(ford y y_1 == some Ordering.eq || ford y y != some Ordering.eq && ford y_1 y_1 != some Ordering.eq)) (T.ret false) (T.opt (split_Tiles (x.1.1, x.1.2.1, W (W (Int.tmod x.2.1 (5 : Int)) + (1 : Int)))) fun y => T.opt (law38_TilesCuts.l0 (x.1, false, y.1, y.2, [], W ((↑(List.length y.1) : Int) - (1 : Int)), ())) fun y => T.ite (exEq y.1 (Ex.exit (0 : Nat))) (T.opt (tiles_Join (y.2.1.1, y.2.1.2.1, List.take y.2.2.2.2.2.1.length y.2.2.2.2.2.1)) fun y_2 => T.ite (y.2.2.2.2.1 != (0 : Int) || y_2.snd != (0 : Int) || (↑(List.length y_2.fst.snd.snd.fst) : Int) != (↑(List.length y.2.1.2.2.1) : Int)) (T.ret false) (T.opt (ref21_Floats (y_2.fst.snd.snd.fst, y.2.1.2.2.1)) fun y_3 => T.ite (!y_3) (T.ret false) (T.opt (ref01_Ints (y_2.fst.snd.snd.snd, y.2.1.2.2.2)) fun y_4 => T.ite (!y_4) (T.ret false) (T.ite (decide ((0 : Int) ≤ (1 : Int)) && decide ((1 : Int) ≤ (↑y.2.2.2.2.2.1.length : Int)) && decide ((↑y.2.2.2.2.2.1.length : Int) ≤ (↑y.2.2.2.2.2.1.length : Int))) (T.opt (tiles_Join (y.2.1.1, y.2.1.2.1, List.take ((↑y.2.2.2.2.2.1.length : Int).toNat - Int.toNat (1 : Int)) (List.drop ((0 : Nat) + Int.toNat (1 : Int)) y.2.2.2.2.2.1))) fun y_5 => T.ite (decide ((0 : Int) ≤ (0 : Int)) && decide ((0 : Int) < (↑y.2.2.2.2.2.1.length : Int))) (T.opt y.2.2.2.2.2.1[(0 : Nat) + Int.toNat (0 : Int)]? fun y_6 => T.ite (decide ((0 : Int) ≤ (1 : Int)) && decide ((1 : Int) ≤ (↑(List.length y_6.snd.fst) : Int)) && decide ((↑(List.length y_6.snd.fst) : Int) ≤ (↑(List.length y_6.snd.fst) : Int))) (T.ite (decide (((0 : Nat) + (List.take ((↑(List.length y_6.snd.fst) : Int).toNat - Int.toNat (1 : Int)) (List.drop (Int.toNat (1 : Int)) y_6.snd.fst)).length) * nat_lit 8 ≤ most)) (T.ite (decide ((0 : Int) ≤ (0 : Int)) && decide ((0 : Int) < (↑y.2.2.2.2.2.1.length : Int))) (T.opt y.2.2.2.2.2.1[(0 : Nat) + Int.toNat (0 : Int)]? fun y_7 => T.opt (tiles_Join (y.2.1.1, y.2.1.2.1, List.take y.2.2.2.2.2.1.length (y.2.2.2.2.2.1.set ((0 : Nat) + Int.toNat (0 : Int)) (y_7.fst, List.take ((0 : Nat) + (List.take ((↑(List.length y_6.snd.fst) : Int).toNat - Int.toNat (1 : Int)) (List.drop (Int.toNat (1 : Int)) y_6.snd.fst)).length) (List.take (0 : Nat) [] ++ List.take ((↑(List.length y_6.snd.fst) : Int).toNat - Int.toNat (1 : Int)) (List.drop (Int.toNat (1 : Int)) y_6.snd.fst)), y_7.snd.snd)))) fun y => T.ret (y_5.snd == (2 : Int) && y.2 == (14 : Int))) T.fail) T.fail) T.fail) T.fail) T.fail)))) (T.ite (exEq y.1 Ex.ret) (T.ret y.2.2.1) T.fail))))))
noncomputable def law38_TilesCuts (x : (Int × Int × List (Option Nat) × List (Int)) × Int × (Int × Int × Int × Int)) : Option (Bool) := (law38_TilesCuts.t x).run
noncomputable def law38_TilesCuts.q : List AV → T AV := entry [TPic, (.int .u8), TRect] (outR [.bool]) fun x => .opt (law38_TilesCuts x) .ret
theorem law38_TilesCuts.ok : FnOK Try.prog 3 law38_TilesCuts.q :=
  entry_call (ps := [TPic, (.int .u8), TRect]) (rs := [.bool]) (F := (dpT Try.prog (ext (ext (ext (ext (ext (ext (ext (ext (ext Xs 10 law38_awake.q) 11 tiles_Cut.q) 12 ref37_May.q) 13 ref37_Fits.q) 14 ref02_Same.q) 15 split_Tiles.q) 17 ref21_Floats.q) 18 ref01_Ints.q) 92 split_Bands_1.q) law38_TilesCuts.deeps law38_TilesCuts.tb 100 8)) (D := (inL law38_TilesCuts.deeps.D)) (S := tabS [(0, loopS law38_TilesCuts.L0 245 0 [.exit 0, .ret] law38_TilesCuts.l0)]) (t := law38_TilesCuts.t) mixed (dpT_ok mixed (quiet_ext (quiet_ext (quiet_ext (quiet_ext (quiet_ext (quiet_ext (quiet_ext (quiet_ext (quiet_ext Xok law38_awake.ok) tiles_Cut.ok) ref37_May.ok) ref37_Fits.ok) ref02_Same.ok) split_Tiles.ok) ref21_Floats.ok) ref01_Ints.ok) split_Bands_1.ok) law38_TilesCuts.deepsOk law38_TilesCuts.tbOk 100 8).1 (dpT_ok mixed (quiet_ext (quiet_ext (quiet_ext (quiet_ext (quiet_ext (quiet_ext (quiet_ext (quiet_ext (quiet_ext Xok law38_awake.ok) tiles_Cut.ok) ref37_May.ok) ref37_Fits.ok) ref02_Same.ok) split_Tiles.ok) ref21_Floats.ok) ref01_Ints.ok) split_Bands_1.ok) law38_TilesCuts.deepsOk law38_TilesCuts.tbOk 100 8).2 Try.func3 (by kernel_rfl) (sok_fn ⟨law38_TilesCuts.k0, trivial⟩) (by kernel_rfl) (fun x => by kernel_rfl)
end Go.Proofs.Pen

namespace Go.Proofs.Pen
open Go Go.Proofs

theorem lget_nat {α : Type} (l : List α) (k : Nat) : lget l (k : Int) = l[k]? := by
  unfold lget
  rw [if_neg (by omega)]; rfl

theorem W_nat {n : Nat} (h : n ≤ 9223372036854775807) : W (n : Int) = n := W_id (by omega) (by omega)

def meet (r s : R4) : R4 := (if s.1 > r.1 then s.1 else r.1, if s.2.1 > r.2.1 then s.2.1 else r.2.1, if s.2.2.1 < r.2.2.1 then s.2.2.1 else r.2.2.1, if s.2.2.2 < r.2.2.2 then s.2.2.2 else r.2.2.2)

theorem Meet_eq (r s : R4) : split_Meet (r, s) = some (if meets r s then (meet r s, true) else ((0, 0, 0, 0), false)) := by
  unfold split_Meet split_Meet.t
  simp only [tr_ite, tr_ret, ← Bool.decide_or, decide_eq_true_eq]
  by_cases h : meets r s
  · rw [if_neg (by unfold meets at h; omega), if_pos h]; rfl
  · rw [if_pos (by unfold meets at h; omega), if_neg h]

theorem Meet_all {w h : Int} (r : R4) (_hw : 0 < w) (_hh : 0 < h) : (meets r (0, 0, w, h) ∧ meet r (0, 0, w, h) = r) ↔ fits w h r := by
  obtain ⟨a, b, c, d⟩ := r
  unfold meets meet fits
  simp only [Prod.mk.injEq]
  constructor
  · rintro ⟨h1, h2, h3, h4, h5⟩
    (repeat' split at h1) <;> (repeat' split at h2) <;> (repeat' split at h3) <;> (repeat' split at h4) <;> (repeat' split at h5) <;> omega
  · intro h1
    (repeat' split) <;> omega

theorem Size_eq {r : R4} (h : fits 8192 8192 r) : split_Size r = some (area r) := by
  unfold fits at h
  unfold split_Size split_Size.t
  rw [tr_ite, if_neg (by simp; omega), tr_ret]
  have h1 := mul_bd (x := r.2.2.1 - r.1) (y := r.2.2.2 - r.2.1) (a := 8192) (b := 8192) (by omega) (by omega) (by omega) (by omega)
  rw [W_id (n := r.2.2.1 - r.1) (by omega) (by omega), W_id (n := r.2.2.2 - r.2.1) (by omega) (by omega), W_id (by omega) (by omega)]
  rfl

def may (w h : Int) : Prop := 1 ≤ w ∧ 1 ≤ h ∧ w ≤ 8192 ∧ h ≤ 8192 ∧ w * h ≤ 65536
instance (w h : Int) : Decidable (may w h) := by unfold may; infer_instance

theorem w_mul {w h : Int} (h1 : 1 ≤ w) (h2 : 1 ≤ h) (h3 : w ≤ 8192) (h4 : h ≤ 8192) : W (w * h) = w * h ∧ 1 ≤ w * h ∧ w * h ≤ 67108864 := by
  have := mul_bd (x := w) (y := h) (a := 8192) (b := 8192) (by omega) (by omega) (by omega) (by omega)
  have h5 : 1 * 1 ≤ w * h := Int.mul_le_mul h1 h2 (by decide) (by omega)
  exact ⟨W_id (by omega) (by omega), by omega, by omega⟩

theorem may_eq (w h : Int) : (decide ((if h < w then h else w) ≥ 1) && decide ((if h > w then h else w) ≤ 8192) && decide (W (w * h) ≤ 65536)) = decide (may w h) := by
  rw [← Bool.decide_and, ← Bool.decide_and]
  apply decide_eq_decide.2
  unfold may
  by_cases hh : 1 ≤ w ∧ 1 ≤ h ∧ w ≤ 8192 ∧ h ≤ 8192
  · rw [(w_mul hh.1 hh.2.1 hh.2.2.1 hh.2.2.2).1]
    (repeat' split) <;> omega
  · constructor
    · intro h1
      (repeat' split at h1) <;> omega
    · intro h1; omega

/-! ### The reference -/
theorem tdiv_nat (p w : Nat) : (p : Int).tdiv (w : Int) = ((p / w : Nat) : Int) := Int.ofNat_tdiv .. |>.symm
theorem tmod_nat (p w : Nat) : (p : Int).tmod (w : Int) = ((p % w : Nat) : Int) := Int.ofNat_tmod .. |>.symm

/-! ### The program -/
theorem S_l2 (l : List R4) (b : Bool) (al : R4) (sum : Int) (r : R4) (l' : List R4) (n i : Int) (L : List R4) (hl : L.length ≤ 4096) :
    ∃ e y, split_Whole.l2 (l, b, al, sum, r, l', n, i, L, (L.length : Int), 0, ()) = some (e, y) ∧
    (((∀ s ∈ L, ¬ meets r s) ∧ e = .exit 2 ∧ y = (l, b, al, sum, r, l', n, i, L, (L.length : Int), (L.length : Int), ())) ∨ ((¬ ∀ s ∈ L, ¬ meets r s) ∧ e = .ret ∧ y.2.1 = false)) := by
  refine iter_inv (fun x => ∃ k : Nat, x = (l, b, al, sum, r, l', n, i, L, (L.length : Int), (k : Int), ()) ∧ k ≤ L.length ∧ ∀ j, j < k → ∀ s, L[j]? = some s → ¬ meets r s) (fun x => L.length - x.2.2.2.2.2.2.2.2.2.2.1.toNat)
    (fun e y => ((∀ s ∈ L, ¬ meets r s) ∧ e = .exit 2 ∧ y = (l, b, al, sum, r, l', n, i, L, (L.length : Int), (L.length : Int), ())) ∨ ((¬ ∀ s ∈ L, ¬ meets r s) ∧ e = .ret ∧ y.2.1 = false)) ?_ rounds _ ⟨0, rfl, Nat.zero_le _, fun j hj => by omega⟩ (rounds_gt (by dsimp only; omega))
  rintro x ⟨k, rfl, hk, hf⟩
  unfold split_Whole.t2
  by_cases hlt : k < L.length
  · have hg : L[k]? = some L[k] := List.getElem?_eq_getElem hlt
    simp only [tr_ite, tr_ret, tr_opt, lget_nat, hg, Option.bind_some, Meet_eq]
    rw [if_pos (by simp; omega)]
    by_cases hm : meets r L[k]
    · simp only [hm, if_true]
      exact ⟨.ret, _, rfl, .inr ⟨by simp, .inr ⟨fun ha => ha _ (List.getElem_mem hlt) hm, rfl, rfl⟩⟩⟩
    · simp only [hm, if_false, Bool.false_eq_true]
      have hw : W ((k : Int) + 1) = ((k + 1 : Nat) : Int) := by rw [W_id (by omega) (by omega)]; omega
      refine ⟨.normal, _, rfl, .inl ⟨rfl, ⟨k + 1, by rw [hw], hlt, fun j hj s hs => ?_⟩, ?_⟩⟩
      · rcases Nat.lt_or_ge j k with h1 | h1
        · exact hf j h1 s hs
        · have : j = k := by omega
          subst this; rw [hg] at hs; cases hs; exact hm
      · dsimp only; rw [hw]; omega
  · simp only [tr_ite, tr_ret]
    rw [if_neg (by simp; omega)]
    have : k = L.length := by omega
    subst this
    refine ⟨.exit 2, _, rfl, .inr ⟨by simp, .inl ⟨fun s hs => ?_, rfl, rfl⟩⟩⟩
    obtain ⟨j, hj⟩ := List.getElem?_of_mem hs
    exact hf j (List.getElem?_eq_some_iff.1 hj).1 s hj

theorem area_bd {w h : Int} {r : R4} (hw : w ≤ 8192) (hh : h ≤ 8192) (hf : fits w h r) : 0 ≤ area r ∧ area r ≤ 67108864 := by
  unfold fits at hf
  have h1 := mul_bd (x := r.2.2.1 - r.1) (y := r.2.2.2 - r.2.1) (a := 8192) (b := 8192) (by omega) (by omega) (by omega) (by omega)
  have h2 : 0 ≤ (r.2.2.1 - r.1) * (r.2.2.2 - r.2.1) := Int.mul_nonneg (by omega) (by omega)
  unfold area; omega

theorem sum_bd {w h : Int} (hw : w ≤ 8192) (hh : h ≤ 8192) : ∀ {l : List R4}, (∀ r ∈ l, fits w h r) → 0 ≤ (l.map area).sum ∧ (l.map area).sum ≤ 67108864 * l.length
  | [], _ => by simp
  | r :: l, hf => by
    have h1 := sum_bd hw hh (l := l) fun r hr => hf r (by simp [hr])
    have h2 := area_bd hw hh (hf r (by simp))
    simp only [List.map_cons, List.sum_cons, List.length_cons]
    omega

theorem apart_snoc {l : List R4} {r : R4} : apart (l ++ [r]) ↔ apart l ∧ ∀ s ∈ l, ¬ meets r s := by
  unfold apart
  rw [List.pairwise_append]
  simp

theorem S_l0 {w h : Int} (hm : may w h) (l : List R4) (hl : l.length ≤ 4096) : ∃ e y, split_Whole.l0 (l, false, (0, 0, w, h), 0, l, (l.length : Int), 0, ()) = some (e, y) ∧
    ((((∀ r ∈ l, fits w h r) ∧ apart l) ∧ e = .exit 0 ∧ y = (l, false, (0, 0, w, h), (l.map area).sum, l, (l.length : Int), (l.length : Int), ())) ∨ ((¬ ((∀ r ∈ l, fits w h r) ∧ apart l)) ∧ e = .ret ∧ y.2.1 = false)) := by
  have hm' := hm
  unfold may at hm'
  refine iter_inv (fun x => ∃ k : Nat, x = (l, false, (0, 0, w, h), ((l.take k).map area).sum, l, (l.length : Int), (k : Int), ()) ∧ k ≤ l.length ∧ (∀ r ∈ l.take k, fits w h r) ∧ apart (l.take k)) (fun x => l.length - x.2.2.2.2.2.2.1.toNat)
    (fun e y => (((∀ r ∈ l, fits w h r) ∧ apart l) ∧ e = .exit 0 ∧ y = (l, false, (0, 0, w, h), (l.map area).sum, l, (l.length : Int), (l.length : Int), ())) ∨ ((¬ ((∀ r ∈ l, fits w h r) ∧ apart l)) ∧ e = .ret ∧ y.2.1 = false)) ?_ rounds _
    ⟨0, by simp, Nat.zero_le _, by simp, by simp [apart]⟩ (rounds_gt (by dsimp only; omega))
  rintro x ⟨k, rfl, hk, hf, ha⟩
  unfold split_Whole.t0
  by_cases hlt : k < l.length
  · have hg : l[k]? = some l[k] := List.getElem?_eq_getElem hlt
    have htake : l.take (k + 1) = l.take k ++ [l[k]] := by rw [List.take_add_one, hg]; rfl
    simp only [tr_ite, tr_ret, tr_opt, lget_nat, hg, Option.bind_some, Meet_eq]
    rw [if_pos (by simp; omega)]
    have hall := Meet_all l[k] (show 0 < w by omega) (show 0 < h by omega)
    by_cases hfit : fits w h l[k]
    · obtain ⟨m1, m2⟩ := hall.2 hfit
      rw [if_pos m1, m2]
      rw [if_neg (by simp), if_pos (by simp; omega)]
      have hdrop : List.take (Int.toNat (k : Int) - Int.toNat 0) (List.drop (Int.toNat 0) l) = l.take k := rfl
      rw [hdrop]
      obtain ⟨e, y, h1, h2⟩ := S_l2 l false (0, 0, w, h) ((l.take k).map area).sum l[k] l (l.length : Int) (k : Int) (l.take k) (by rw [List.length_take]; omega)
      rw [h1, Option.bind_some]
      rcases h2 with ⟨hap, rfl, rfl⟩ | ⟨hap, rfl, hy⟩
      · rw [if_pos (by rfl)]
        dsimp only
        have h8 : fits 8192 8192 l[k] := by unfold fits at hfit ⊢; omega
        rw [Size_eq h8, Option.bind_some]
        have hb := sum_bd (w := w) (h := h) (by omega) (by omega) hf
        have hb2 := area_bd (w := w) (h := h) (by omega) (by omega) hfit
        rw [List.length_take, Nat.min_eq_left hk] at hb
        have hw : W ((k : Int) + 1) = ((k + 1 : Nat) : Int) := by rw [W_id (by omega) (by omega)]; omega
        refine ⟨.normal, _, rfl, .inl ⟨rfl, ⟨k + 1, ?_, hlt, ?_, ?_⟩, ?_⟩⟩
        · rw [hw, W_id (by omega) (by omega), htake, List.map_append, List.sum_append]; simp
        · rw [htake]; intro r hr
          rw [List.mem_append] at hr
          rcases hr with hr | hr
          · exact hf r hr
          · simp at hr; subst hr; exact hfit
        · rw [htake]; exact apart_snoc.2 ⟨ha, hap⟩
        · dsimp only; rw [hw]; omega
      · rw [if_neg (by simp [exEq]), if_pos (by rfl)]
        refine ⟨.ret, _, rfl, .inr ⟨by simp, .inr ⟨fun hh => hap ?_, rfl, hy⟩⟩⟩
        have : apart (l.take (k + 1)) := List.Pairwise.sublist (List.take_sublist _ _) hh.2
        rw [htake] at this
        exact (apart_snoc.1 this).2
    · have hno : ¬ (meets l[k] (0, 0, w, h) ∧ meet l[k] (0, 0, w, h) = l[k]) := fun hh => hfit (hall.1 hh)
      rw [if_pos]
      · exact ⟨.ret, _, rfl, .inr ⟨by simp, .inr ⟨fun hh => hfit (hh.1 _ (List.getElem_mem hlt)), rfl, rfl⟩⟩⟩
      · by_cases m1 : meets l[k] (0, 0, w, h)
        · have m2 : meet l[k] (0, 0, w, h) ≠ l[k] := fun e => hno ⟨m1, e⟩
          rw [if_pos m1]
          simp only [Bool.not_true, Bool.false_or, Bool.not_eq_true', Bool.and_eq_false_iff, beq_eq_false_iff_ne, ne_eq]
          apply Classical.byContradiction
          intro hc
          simp only [not_or, Classical.not_not] at hc
          exact m2 (by ext <;> simp [hc])
        · rw [if_neg m1]; simp
  · simp only [tr_ite, tr_ret]
    rw [if_neg (by simp; omega)]
    have : k = l.length := by omega
    subst this
    rw [List.take_length] at hf ha
    exact ⟨.exit 0, _, rfl, .inr ⟨by simp, .inl ⟨⟨hf, ha⟩, rfl, by rw [List.take_length]⟩⟩⟩

open Classical in
theorem SWhole_eq (w h : Int) (l : List R4) : split_Whole (w, h, l) = some (decide (may w h ∧ l.length ≤ 4096 ∧ (∀ r ∈ l, fits w h r) ∧ apart l ∧ (l.map area).sum = w * h)) := by
  unfold split_Whole split_Whole.t
  simp only [tr_ite, tr_ret, tr_opt, may_eq]
  by_cases hm : may w h
  · by_cases hl : l.length ≤ 4096
    · rw [if_neg (by simp [hm]; omega)]
      obtain ⟨e, y, h1, h2⟩ := S_l0 hm l hl
      rw [h1, Option.bind_some]
      have hm' := hm
      unfold may at hm'
      rcases h2 with ⟨⟨hf, ha⟩, rfl, rfl⟩ | ⟨hf, rfl, hy⟩
      · rw [if_pos (by rfl)]
        dsimp only
        rw [Size_eq (r := (0, 0, w, h)) (by unfold fits; dsimp only; omega), Option.bind_some]
        refine congrArg some ?_
        rw [Bool.eq_iff_iff, beq_iff_eq, decide_eq_true_iff]
        have e : area (0, 0, w, h) = w * h := by unfold area; simp
        rw [e]
        exact ⟨fun h => ⟨hm, hl, hf, ha, h⟩, fun h => h.2.2.2.2⟩
      · rw [if_neg (by simp [exEq]), if_pos (by rfl), hy]
        exact congrArg some (decide_eq_false fun hh => hf ⟨hh.2.2.1, hh.2.2.2.1⟩).symm
    · rw [if_pos (by simp; omega)]
      exact congrArg some (decide_eq_false fun hh => hl hh.2.1).symm
  · rw [if_pos (by simp [hm])]
    exact congrArg some (decide_eq_false fun hh => hm hh.1).symm

open Classical in
/-- Both tell the same. -/
theorem has_def (r : R4) (x y : Int) : has r x y = (decide (r.1 ≤ x) && decide (x < r.2.2.1) && decide (r.2.1 ≤ y) && decide (y < r.2.2.2)) := rfl

def tile (w h s A : Nat) (k : Nat) : R4 := (((k % A * s : Nat) : Int), ((k / A * s : Nat) : Int), ((min (k % A * s + s) w : Nat) : Int), ((min (k / A * s + s) h : Nat) : Int))
def tl (w h s A : Nat) (n : Nat) : List R4 := (List.range n).map (tile w h s A)
theorem tl_len (w h s A n : Nat) : (tl w h s A n).length = n := by simp [tl]
theorem tl_snoc (w h s A n : Nat) : tl w h s A (n + 1) = tl w h s A n ++ [tile w h s A n] := by simp [tl, List.range_succ]

theorem take_snoc {α : Type} (l : List α) (x : α) : List.take (l.length + 1) (List.take l.length l ++ [x]) = l ++ [x] := by
  rw [List.take_length]; exact List.take_of_length_le (by simp)

theorem lt_side {i s w : Nat} (hs : 0 < s) (hw : 0 < w) : i * s < w ↔ i < (w - 1) / s + 1 := by
  have : i ≤ (w - 1) / s ↔ i * s ≤ w - 1 := Nat.le_div_iff_mul_le hs
  omega

theorem ifmin (a b : Nat) : (if (b : Int) < a then (b : Int) else a) = ((min a b : Nat) : Int) := by split <;> omega

theorem T_l3 {w h s j A : Nat} (hs : 0 < s) (hs2 : s ≤ 8192) (hw : 0 < w) (hw2 : w ≤ 8192) (hh2 : h ≤ 8192) (hA : A = (w - 1) / s + 1) (hj : j * s < h) (hbig : (j + 1) * A ≤ 4096) :
    ∃ z, split_Tiles.l3 ((w : Int), (h : Int), (s : Int), tl w h s A (j * A), ((j * s : Nat) : Int), 0, ()) = some (.exit 3, (w : Int), (h : Int), (s : Int), tl w h s A ((j + 1) * A), ((j * s : Nat) : Int), z, ()) := by
  have hA1 : 0 < A := by rw [hA]; exact Nat.succ_pos _
  have key := iter_inv (t := split_Tiles.t3) (fun x => ∃ i : Nat, x = ((w : Int), (h : Int), (s : Int), tl w h s A (j * A + i), ((j * s : Nat) : Int), ((i * s : Nat) : Int), ()) ∧ i ≤ A) (fun x => ((w : Int) - x.2.2.2.2.2.1).toNat)
    (fun e z => e = .exit 3 ∧ ∃ t, z = ((w : Int), (h : Int), (s : Int), tl w h s A ((j + 1) * A), ((j * s : Nat) : Int), t, ())) ?_ rounds ((w : Int), (h : Int), (s : Int), tl w h s A (j * A), ((j * s : Nat) : Int), 0, ()) ⟨0, by simp, Nat.zero_le _⟩ (rounds_gt (by dsimp only; omega))
  · obtain ⟨e, z, h1, rfl, t, rfl⟩ := key
    exact ⟨t, h1⟩
  · rintro x ⟨i, rfl, hi⟩
    unfold split_Tiles.t3
    simp only [tr_ite, tr_ret, tl_len]
    by_cases hlt : i * s < w
    · have hiA : i < A := by rw [hA]; exact (lt_side hs hw).1 hlt
      rw [if_pos (by simp only [decide_eq_true_eq]; omega), if_pos (decide_eq_true (by rw [Nat.succ_mul] at hbig; unfold most; omega))]
      have e1 : W (((i * s : Nat) : Int) + (s : Int)) = ((i * s + s : Nat) : Int) := by rw [W_id (by omega) (by omega)]; omega
      have e2 : W (((j * s : Nat) : Int) + (s : Int)) = ((j * s + s : Nat) : Int) := by rw [W_id (by omega) (by omega)]; omega
      have m1 : (j * A + i) % A = i := by rw [Nat.mul_comm, Nat.mul_add_mod, Nat.mod_eq_of_lt hiA]
      have m2 : (j * A + i) / A = j := by rw [Nat.mul_comm, Nat.mul_add_div hA1, Nat.div_eq_of_lt hiA]; omega
      rw [e1, e2]
      refine ⟨.normal, _, rfl, .inl ⟨rfl, ⟨i + 1, ?_, hiA⟩, by dsimp only; omega⟩⟩
      have e3 : tile w h s A (j * A + i) = (((i * s : Nat) : Int), ((j * s : Nat) : Int), if (w : Int) < ((i * s + s : Nat) : Int) then (w : Int) else ((i * s + s : Nat) : Int), if (h : Int) < ((j * s + s : Nat) : Int) then (h : Int) else ((j * s + s : Nat) : Int)) := by
        unfold tile; rw [m1, m2, ifmin, ifmin]
      have e4 := take_snoc (tl w h s A (j * A + i)) (tile w h s A (j * A + i))
      rw [tl_len] at e4
      rw [← Nat.add_assoc, tl_snoc, ← e4, e3, Nat.succ_mul]
    · rw [if_neg (by simp only [decide_eq_true_eq]; omega)]
      have : i = A := by
        have := mt (lt_side hs hw).2 hlt; omega
      subst this
      refine ⟨.exit 3, _, rfl, .inr ⟨by simp, rfl, ((i * s : Nat) : Int), ?_⟩⟩
      have e4 := List.take_length (l := tl w h s i (j * i + i))
      rw [tl_len] at e4
      rw [e4, Nat.succ_mul]

theorem T_l1 {w h s A B : Nat} (hs : 0 < s) (hs2 : s ≤ 8192) (hw : 0 < w) (hw2 : w ≤ 8192) (hh : 0 < h) (hh2 : h ≤ 8192) (hA : A = (w - 1) / s + 1) (hB : B = (h - 1) / s + 1) (hbig : B * A ≤ 4096) :
    ∃ z, split_Tiles.l1 ((w : Int), (h : Int), (s : Int), [], 0, ()) = some (.exit 1, (w : Int), (h : Int), (s : Int), tl w h s A (B * A), z, ()) := by
  have key := iter_inv (t := split_Tiles.t1) (fun x => ∃ j : Nat, x = ((w : Int), (h : Int), (s : Int), tl w h s A (j * A), ((j * s : Nat) : Int), ()) ∧ j ≤ B) (fun x => ((h : Int) - x.2.2.2.2.1).toNat)
    (fun e z => e = .exit 1 ∧ ∃ t, z = ((w : Int), (h : Int), (s : Int), tl w h s A (B * A), t, ())) ?_ rounds ((w : Int), (h : Int), (s : Int), [], 0, ()) ⟨0, by simp [tl], Nat.zero_le _⟩ (rounds_gt (by dsimp only; omega))
  · obtain ⟨e, z, h1, rfl, t, rfl⟩ := key
    exact ⟨t, h1⟩
  · rintro x ⟨j, rfl, hj⟩
    unfold split_Tiles.t1
    simp only [tr_ite, tr_ret, tr_opt, List.take_length]
    by_cases hlt : j * s < h
    · have hjB : j < B := by rw [hB]; exact (lt_side hs hh).1 hlt
      have hmul : (j + 1) * A ≤ B * A := Nat.mul_le_mul_right _ hjB
      obtain ⟨z, hz⟩ := T_l3 hs hs2 hw hw2 hh2 hA hlt (Nat.le_trans hmul hbig)
      rw [if_pos (by simp only [decide_eq_true_eq]; omega), hz, Option.bind_some, if_pos (by rfl)]
      have e2 : W (((j * s : Nat) : Int) + (s : Int)) = (((j + 1) * s : Nat) : Int) := by rw [W_id (by omega) (by omega), Nat.succ_mul]; omega
      dsimp only
      rw [e2]
      exact ⟨.normal, _, rfl, .inl ⟨rfl, ⟨j + 1, rfl, hjB⟩, by dsimp only; rw [Nat.succ_mul]; omega⟩⟩
    · rw [if_neg (by simp only [decide_eq_true_eq]; omega)]
      have : j = B := by
        have := mt (lt_side hs hh).2 hlt; omega
      subst this
      exact ⟨.exit 1, _, rfl, .inr ⟨by simp, rfl, _, rfl⟩⟩

theorem sides {w s : Nat} (hs : 0 < s) (hw : 0 < w) : (w + s - 1) / s = (w - 1) / s + 1 := by
  rw [show w + s - 1 = (w - 1) + s by omega, Nat.add_div_right _ hs]

theorem Tiles_eq {w h s A B : Nat} (hm : may w h) (hs : 0 < s) (hs2 : s ≤ 8192) (hA : A = (w - 1) / s + 1) (hB : B = (h - 1) / s + 1) :
    split_Tiles ((w : Int), (h : Int), (s : Int)) = some (if A * B ≤ 4096 then (tl w h s A (A * B), 0) else ([], 4)) := by
  have hm' := hm
  unfold may at hm'
  unfold split_Tiles split_Tiles.t
  simp only [tr_ite, tr_ret, tr_opt, may_eq]
  rw [if_neg (by simp [hm]), if_neg (by simp; omega), if_neg (by simp; omega), if_neg (by simp; omega)]
  have a1 : W (W ((w : Int) + s) - 1) = ((w + s - 1 : Nat) : Int) := by rw [W_id (n := (w : Int) + s) (by omega) (by omega), W_id (by omega) (by omega)]; omega
  have a2 : W (W ((h : Int) + s) - 1) = ((h + s - 1 : Nat) : Int) := by rw [W_id (n := (h : Int) + s) (by omega) (by omega), W_id (by omega) (by omega)]; omega
  have hA8 : A ≤ 8192 := by rw [hA]; have := Nat.div_le_self (w - 1) s; omega
  have hB8 : B ≤ 8192 := by rw [hB]; have := Nat.div_le_self (h - 1) s; omega
  rw [a1, a2, tdiv_nat, tdiv_nat, sides hs (by omega), sides hs (by omega), ← hA, ← hB, W_nat (by omega), W_nat (by omega)]
  have hAB : A * B ≤ 8192 * 8192 := Nat.mul_le_mul hA8 hB8
  have e : ((A : Int) * B) = ((A * B : Nat) : Int) := by simp
  rw [e, W_nat (by omega)]
  by_cases hbig : A * B ≤ 4096
  · rw [if_neg (by simp only [decide_eq_true_eq]; omega), if_pos hbig]
    obtain ⟨z, hz⟩ := T_l1 (B := B) hs hs2 (by omega) (by omega) (by omega) (by omega) hA hB (by rw [Nat.mul_comm]; exact hbig)
    rw [hz, Option.bind_some, if_pos (by rfl)]
    dsimp only
    rw [List.take_length, Nat.mul_comm]
  · rw [if_pos (by simp only [decide_eq_true_eq]; omega), if_neg hbig]

theorem tile_fits {w h s A B k : Nat} (hs : 0 < s) (hw : 0 < w) (hh : 0 < h) (hA : A = (w - 1) / s + 1) (hB : B = (h - 1) / s + 1) (hk : k < A * B) : fits w h (tile w h s A k) := by
  have h1 : k % A < A := Nat.mod_lt _ (by rw [hA]; exact Nat.succ_pos _)
  have h2 : k / A < B := Nat.div_lt_of_lt_mul hk
  rw [hA] at h1
  have h3 := (lt_side hs hw).2 h1
  rw [← hA] at h3
  rw [hB] at h2
  have h4 := (lt_side hs hh).2 h2
  unfold fits tile
  dsimp only
  omega

theorem between {i s q : Nat} (hs : 0 < s) : i * s ≤ q ∧ q < i * s + s ↔ i = q / s := by
  rw [← Nat.succ_mul]
  constructor
  · rintro ⟨h1, h2⟩
    have := (Nat.le_div_iff_mul_le hs).2 h1
    have := (Nat.div_lt_iff_lt_mul hs).2 h2
    omega
  · intro h
    subst h
    exact ⟨Nat.div_mul_le_self q s, (Nat.div_lt_iff_lt_mul hs).1 (by omega)⟩

theorem tile_once {w h s A B : Nat} (hs : 0 < s) (hw : 0 < w) (hh : 0 < h) (hA : A = (w - 1) / s + 1) (hB : B = (h - 1) / s + 1) : once w h (tl w h s A (A * B)) := by
  intro p hp
  have hx : p % w < w := Nat.mod_lt _ hw
  have hy : p / w < h := Nat.div_lt_of_lt_mul hp
  generalize hxx : p % w = x at *
  generalize hyy : p / w = y at *
  have hA1 : 0 < A := by rw [hA]; exact Nat.succ_pos _
  have c1 : x / s < A := by rw [hA]; have := Nat.div_le_div_right (c := s) (show x ≤ w - 1 by omega); omega
  have c2 : y / s < B := by rw [hB]; have := Nat.div_le_div_right (c := s) (show y ≤ h - 1 by omega); omega
  have b1 := fun i => between (i := i) (q := x) hs
  have b2 := fun i => between (i := i) (q := y) hs
  generalize x / s = cx at *
  generalize y / s = cy at *
  have hc : A * cy + cx < A * B := by
    have : A * (cy + 1) ≤ A * B := Nat.mul_le_mul_left _ c2
    rw [Nat.mul_succ] at this; omega
  unfold tl
  rw [List.countP_map]
  have e : (List.range (A * B)).countP ((fun r => hasP w r p) ∘ tile w h s A) = (List.range (A * B)).countP fun (i : Nat) => decide (((A * cy + cx : Nat) : Int) ≤ (i : Int)) && decide ((i : Int) < ((A * cy + cx + 1 : Nat) : Int)) := by
    apply List.countP_congr
    intro k hk
    simp only [Function.comp, Bool.and_eq_true, decide_eq_true_eq]
    unfold hasP
    rw [has_iff]
    unfold tile
    dsimp only
    rw [hxx, hyy]
    have b1 := b1 (k % A)
    have b2 := b2 (k / A)
    have hd := Nat.div_add_mod k A
    have hback : k = A * cy + cx → k % A = cx ∧ k / A = cy := fun hk' => by
      rw [hk', Nat.mul_add_mod, Nat.mod_eq_of_lt c1, Nat.mul_add_div hA1, Nat.div_eq_of_lt c1]; exact ⟨rfl, by omega⟩
    generalize k % A = u at *
    generalize k / A = v at *
    constructor
    · rintro ⟨g1, g2, g3, g4⟩
      have hu := b1.1 (by omega)
      have hv := b2.1 (by omega)
      subst hu hv
      omega
    · rintro ⟨g1, g2⟩
      obtain ⟨g3, g4⟩ := hback (by omega)
      have := b1.2 g3
      have := b2.2 g4
      omega
  rw [e, countP_range_between _ _ _ (by omega) (by omega) (by omega)]
  omega

def band (w h m : Nat) (i : Nat) : R4 := (0, ((i * h / m : Nat) : Int), (w : Int), (((i + 1) * h / m : Nat) : Int))
def bl (w h m : Nat) (n : Nat) : List R4 := (List.range n).map (band w h m)
theorem bl_len (w h m n : Nat) : (bl w h m n).length = n := by simp [bl]
theorem bl_snoc (w h m n : Nat) : bl w h m (n + 1) = bl w h m n ++ [band w h m n] := by simp [bl, List.range_succ]

theorem Bands_1_eq {i h m : Nat} (hm : 0 < m) (hi : i ≤ 8192) (hh : h ≤ 8192) : split_Bands_1 ((i : Int), (h : Int), (m : Int)) = some ((i * h / m : Nat) : Int) := by
  have hb : i * h ≤ 8192 * 8192 := Nat.mul_le_mul hi hh
  have hd := Nat.div_le_self (i * h) m
  unfold split_Bands_1 split_Bands_1.t
  simp only [tr_ite, tr_ret]
  rw [if_neg (by simp; omega), show (i : Int) * (h : Int) = ((i * h : Nat) : Int) by simp, W_nat (n := i * h) (by omega), tdiv_nat, W_nat (by omega)]

theorem B_l1 {w h m : Nat} (hm : 0 < m) (hm2 : m ≤ h) (hh : h ≤ 8192) : ∃ z, split_Bands.l1 ((w : Int), (h : Int), (m : Int), [], (m : Int), 0, ()) = some (.exit 1, (w : Int), (h : Int), (m : Int), bl w h m m, (m : Int), z, ()) := by
  have key := iter_inv (t := split_Bands.t1) (fun x => ∃ k : Nat, x = ((w : Int), (h : Int), (m : Int), bl w h m k, (m : Int), (k : Int), ()) ∧ k ≤ m) (fun x => m - x.2.2.2.2.2.1.toNat)
    (fun e z => e = .exit 1 ∧ ∃ t, z = ((w : Int), (h : Int), (m : Int), bl w h m m, (m : Int), t, ())) ?_ rounds ((w : Int), (h : Int), (m : Int), [], (m : Int), 0, ()) ⟨0, by simp [bl], Nat.zero_le _⟩ (rounds_gt (by dsimp only; omega))
  · obtain ⟨e, z, h1, rfl, t, rfl⟩ := key
    exact ⟨t, h1⟩
  · rintro x ⟨k, rfl, hk⟩
    unfold split_Bands.t1
    simp only [tr_ite, tr_ret, tr_opt, bl_len]
    by_cases hlt : k < m
    · have hw1 : W ((k : Int) + 1) = ((k + 1 : Nat) : Int) := by rw [W_id (by omega) (by omega)]; omega
      rw [if_pos (by simpa using hlt), hw1, Bands_1_eq hm (by omega) hh, Bands_1_eq hm (by omega) hh]
      simp only [Option.bind_some]
      rw [if_pos (decide_eq_true (by unfold most; omega))]
      refine ⟨.normal, _, rfl, .inl ⟨rfl, ⟨k + 1, ?_, hlt⟩, by dsimp only; omega⟩⟩
      have e4 := take_snoc (bl w h m k) (band w h m k)
      rw [bl_len] at e4
      rw [bl_snoc, ← e4]; rfl
    · rw [if_neg (by simpa using hlt)]
      have : k = m := by omega
      subst this
      refine ⟨.exit 1, _, rfl, .inr ⟨by simp, rfl, (k : Int), ?_⟩⟩
      have e4 := List.take_length (l := bl w h k k)
      rw [bl_len] at e4
      rw [e4]

theorem Bands_eq {w h m : Nat} (hy : may w h) (hm : 0 < m) (hm2 : m ≤ h) : split_Bands ((w : Int), (h : Int), (m : Int)) = some (bl w h m m, 0) := by
  have hy' := hy
  unfold may at hy'
  unfold split_Bands split_Bands.t
  simp only [tr_ite, tr_ret, tr_opt, may_eq]
  rw [if_neg (by simp [hy]), if_neg (by simp; omega)]
  obtain ⟨z, hz⟩ := B_l1 (w := w) hm hm2 (by omega)
  rw [hz, Option.bind_some, if_pos (by rfl)]
  dsimp only
  rw [List.take_length]

end Go.Proofs.Pen

namespace Go.Proofs.Pen
open Go Go.Proofs

theorem iter_count {σ : Type} {t : σ → T (Ex × σ)} (st : Nat → σ) {e : Ex} {z : σ} (he : e ≠ .normal) : ∀ (n k m : Nat), (∀ i, k ≤ i → i < k + n → (t (st i)).run = some (.normal, st (i + 1))) → (t (st (k + n))).run = some (e, z) → n < m → (iterT t m (st k)).run = some (e, z)
  | n, k, 0, _, _, hm => absurd hm (Nat.not_lt_zero _)
  | 0, k, m + 1, _, h2, _ => by
    rw [Nat.add_zero] at h2
    rw [iter_step h2]
    cases e <;> first | rfl | exact absurd rfl he
  | n + 1, k, m + 1, h1, h2, hm => by
    rw [iter_step (h1 k (Nat.le_refl _) (by omega))]
    exact iter_count st he n (k + 1) m (fun i a b => h1 i (by omega) (by omega)) (by rw [show k + 1 + n = k + (n + 1) by omega]; exact h2) (by omega)

/-! ### A part's pixels, one behind the other -/
abbrev rN (x0 y0 cw ch : Nat) : R4 := ((x0 : Int), (y0 : Int), ((x0 + cw : Nat) : Int), ((y0 + ch : Nat) : Int))
theorem rN_x0 (x0 y0 cw ch : Nat) : (rN x0 y0 cw ch).1 = (x0 : Int) := rfl
theorem rN_y0 (x0 y0 cw ch : Nat) : (rN x0 y0 cw ch).2.1 = (y0 : Int) := rfl
theorem rN_x1 (x0 y0 cw ch : Nat) : (rN x0 y0 cw ch).2.2.1 = ((x0 + cw : Nat) : Int) := rfl
theorem rN_y1 (x0 y0 cw ch : Nat) : (rN x0 y0 cw ch).2.2.2 = ((y0 + ch : Nat) : Int) := rfl
def cellAt (w x0 y0 cw n : Nat) : Nat := (y0 + n / cw) * w + (x0 + n % cw)
def chunk (L : List (Option Nat)) (k : Nat) : List (Option Nat) := (L.drop (3 * k)).take 3
def cutL (L : List (Option Nat)) (w x0 y0 cw n : Nat) : List (Option Nat) := (List.range n).flatMap fun m => chunk L (cellAt w x0 y0 cw m)
def cutD (D : List Int) (w x0 y0 cw n : Nat) : List Int := (List.range n).map fun m => D.getD (cellAt w x0 y0 cw m) 0

theorem cellAt_row {w x0 y0 cw i j : Nat} (hi : i < cw) : cellAt w x0 y0 cw (j * cw + i) = (y0 + j) * w + (x0 + i) := by
  unfold cellAt
  have m1 : (j * cw + i) % cw = i := by rw [Nat.mul_comm, Nat.mul_add_mod, Nat.mod_eq_of_lt hi]
  have m2 : (j * cw + i) / cw = j := by rw [Nat.mul_comm, Nat.mul_add_div (by omega), Nat.div_eq_of_lt hi]; omega
  rw [m1, m2]

theorem row_lt {w h x y : Nat} (hx : x < w) (hy : y < h) : y * w + x < w * h := by
  have h1 : (y + 1) * w ≤ h * w := Nat.mul_le_mul_right _ hy
  rw [Nat.succ_mul] at h1
  rw [Nat.mul_comm w h]; omega

theorem cellAt_lt {w h x0 y0 cw ch n : Nat} (hc : 0 < cw) (hx : x0 + cw ≤ w) (hy : y0 + ch ≤ h) (hn : n < ch * cw) : cellAt w x0 y0 cw n < w * h := by
  have h1 : n % cw < cw := Nat.mod_lt _ hc
  have h2 : n / cw < ch := Nat.div_lt_of_lt_mul (by rw [Nat.mul_comm]; exact hn)
  exact row_lt (by omega) (by omega)

theorem chunk_len {L : List (Option Nat)} {N k : Nat} (hL : L.length = 3 * N) (hk : k < N) : (chunk L k).length = 3 := by
  unfold chunk
  rw [List.length_take, List.length_drop]; omega

theorem cutL_succ (L : List (Option Nat)) (w x0 y0 cw n : Nat) : cutL L w x0 y0 cw (n + 1) = cutL L w x0 y0 cw n ++ chunk L (cellAt w x0 y0 cw n) := by
  simp [cutL, List.range_succ]
theorem cutD_succ (D : List Int) (w x0 y0 cw n : Nat) : cutD D w x0 y0 cw (n + 1) = cutD D w x0 y0 cw n ++ [D.getD (cellAt w x0 y0 cw n) 0] := by
  simp [cutD, List.range_succ]
theorem cutD_len (D : List Int) (w x0 y0 cw n : Nat) : (cutD D w x0 y0 cw n).length = n := by simp [cutD]

theorem cutL_len {L : List (Option Nat)} {w h x0 y0 cw ch : Nat} (hL : L.length = 3 * (w * h)) (hc : 0 < cw) (hx : x0 + cw ≤ w) (hy : y0 + ch ≤ h) : ∀ {n : Nat}, n ≤ ch * cw → (cutL L w x0 y0 cw n).length = 3 * n
  | 0, _ => rfl
  | n + 1, hn => by
    rw [cutL_succ, List.length_append, cutL_len hL hc hx hy (by omega), chunk_len hL (cellAt_lt hc hx hy (by omega))]; omega

section
variable {w h x0 y0 cw ch : Nat} {L : List (Option Nat)} {D : List Int}

theorem W3 {k : Nat} (hk : k ≤ 100) : W (3 * (k : Int)) = ((3 * k : Nat) : Int) := by rw [W_id (by omega) (by omega)]; omega
theorem W33 {k : Nat} (hk : k ≤ 100) : W (((3 * k : Nat) : Int) + 3) = ((3 * k + 3 : Nat) : Int) := by rw [W_id (by omega) (by omega)]; omega
theorem Wat {w y x N : Nat} (hN : N ≤ 100) (hk : y * w + x < N) : W (W ((y : Int) * (w : Int)) + (x : Int)) = ((y * w + x : Nat) : Int) := by
  have e : ((y : Int) * (w : Int)) = ((y * w : Nat) : Int) := by simp
  rw [e, W_id (n := ((y * w : Nat) : Int)) (by omega) (by omega), W_id (by omega) (by omega)]; omega
theorem Wsucc {k : Nat} (hk : k ≤ 100000) : W ((k : Int) + 1) = ((k + 1 : Nat) : Int) := by rw [W_id (by omega) (by omega)]; omega

theorem C_l2 (hL : L.length = 3 * (w * h)) (hD : D.length = w * h) (hs : w * h ≤ 100) (hc : 0 < cw) (hx : x0 + cw ≤ w) (hy : y0 + ch ≤ h) {j : Nat} (hj : j < ch) (res : (Int × Int × Int × Int) × List (Option Nat) × List Int) :
    eachCut.l2 (((w : Int), (h : Int), L, D), rN x0 y0 cw ch, res, (rN x0 y0 cw ch, cutL L w x0 y0 cw (j * cw), cutD D w x0 y0 cw (j * cw), ()), rN x0 y0 cw ch, ((y0 + j : Nat) : Int), (x0 : Int), ())
      = some (.exit 2, ((w : Int), (h : Int), L, D), rN x0 y0 cw ch, res, (rN x0 y0 cw ch, cutL L w x0 y0 cw ((j + 1) * cw), cutD D w x0 y0 cw ((j + 1) * cw), ()), rN x0 y0 cw ch, ((y0 + j : Nat) : Int), ((x0 + cw : Nat) : Int), ()) := by
  have hw100 : w ≤ 100 := by
    have : w * 1 ≤ w * h := Nat.mul_le_mul_left _ (by omega)
    omega
  have hjc : (j + 1) * cw ≤ ch * cw := Nat.mul_le_mul_right _ hj
  rw [Nat.succ_mul] at hjc
  have key := iter_count (t := eachCut.t2) (fun i => (((w : Int), (h : Int), L, D), rN x0 y0 cw ch, res, (rN x0 y0 cw ch, cutL L w x0 y0 cw (j * cw + i), cutD D w x0 y0 cw (j * cw + i), ()), rN x0 y0 cw ch, ((y0 + j : Nat) : Int), ((x0 + i : Nat) : Int), ())) (e := .exit 2)
    (z := (((w : Int), (h : Int), L, D), rN x0 y0 cw ch, res, (rN x0 y0 cw ch, cutL L w x0 y0 cw (j * cw + cw), cutD D w x0 y0 cw (j * cw + cw), ()), rN x0 y0 cw ch, ((y0 + j : Nat) : Int), ((x0 + cw : Nat) : Int), ())) (by simp) cw 0 rounds ?_ ?_ (rounds_gt (by omega))
  · rw [Nat.succ_mul]
    unfold eachCut.l2
    simpa using key
  · intro i _ hi
    have hi : i < cw := by omega
    have hk : (y0 + j) * w + (x0 + i) < w * h := row_lt (by omega) (by omega)
    have hat := cellAt_row (w := w) (x0 := x0) (y0 := y0) (j := j) hi
    have hlen : (cutL L w x0 y0 cw (j * cw + i)).length = 3 * (j * cw + i) := cutL_len hL hc hx hy (by omega)
    have hck : (chunk L ((y0 + j) * w + (x0 + i))).length = 3 := chunk_len hL hk
    have hcn : j * cw + i < w * h := by
      have : ch * cw ≤ h * w := Nat.mul_le_mul (by omega) (by omega)
      rw [Nat.mul_comm w h]; omega
    obtain ⟨k, hkd⟩ : ∃ k, k = (y0 + j) * w + (x0 + i) := ⟨_, rfl⟩
    have hWa : W (W (((y0 + j : Nat) : Int) * (w : Int)) + ((x0 + i : Nat) : Int)) = (k : Int) := by rw [hkd]; exact Wat hs hk
    rw [← hkd] at hk hat hck
    unfold eachCut.t2
    simp only [tr_ite, tr_opt, tr_ret, hWa, W3 (k := k) (by omega), W33 (k := k) (by omega), lget_nat, Int.toNat_natCast]
    rw [show 3 * k + 3 - 3 * k = 3 by omega]
    rw [show List.take 3 (List.drop (3 * k) L) = chunk L k from rfl]
    rw [if_pos (by simp only [decide_eq_true_eq]; omega), if_pos (by simp only [Bool.and_eq_true, decide_eq_true_eq]; omega), if_pos (decide_eq_true (by rw [hlen, hck]; unfold most; omega))]
    rw [List.getElem?_eq_getElem (by omega), Option.bind_some, if_pos (decide_eq_true (by rw [cutD_len]; unfold most; omega))]
    rw [Wsucc (by omega)]
    have g1 : List.take ((cutL L w x0 y0 cw (j * cw + i)).length + (chunk L k).length) (List.take (cutL L w x0 y0 cw (j * cw + i)).length (cutL L w x0 y0 cw (j * cw + i)) ++ chunk L k) = cutL L w x0 y0 cw (j * cw + (i + 1)) := by
      rw [List.take_length, List.take_of_length_le (by rw [List.length_append]; omega), show j * cw + (i + 1) = j * cw + i + 1 from rfl, cutL_succ, hat]
    have g2 : List.take ((cutD D w x0 y0 cw (j * cw + i)).length + 1) (List.take (cutD D w x0 y0 cw (j * cw + i)).length (cutD D w x0 y0 cw (j * cw + i)) ++ [D[k]]) = cutD D w x0 y0 cw (j * cw + (i + 1)) := by
      rw [take_snoc, show j * cw + (i + 1) = j * cw + i + 1 from rfl, cutD_succ, hat, List.getD_eq_getElem?_getD, List.getElem?_eq_getElem (by omega)]; rfl
    rw [g1, g2]
    rfl
  · unfold eachCut.t2
    simp only [tr_ite, tr_opt, tr_ret, Nat.zero_add]
    rw [if_neg (by simp), List.take_length, List.take_length]

theorem C_l0 (hL : L.length = 3 * (w * h)) (hD : D.length = w * h) (hs : w * h ≤ 100) (hc : 0 < cw) (hx : x0 + cw ≤ w) (hy : y0 + ch ≤ h) (_hh : 0 < ch) (res : (Int × Int × Int × Int) × List (Option Nat) × List Int) :
    eachCut.l0 (((w : Int), (h : Int), L, D), rN x0 y0 cw ch, res, (rN x0 y0 cw ch, [], [], ()), rN x0 y0 cw ch, (y0 : Int), ())
      = some (.exit 0, ((w : Int), (h : Int), L, D), rN x0 y0 cw ch, res, (rN x0 y0 cw ch, cutL L w x0 y0 cw (ch * cw), cutD D w x0 y0 cw (ch * cw), ()), rN x0 y0 cw ch, ((y0 + ch : Nat) : Int), ()) := by
  have hh100 : h ≤ 100 := by
    have : 1 * h ≤ w * h := Nat.mul_le_mul_right _ (by omega)
    omega
  have key := iter_count (t := eachCut.t0) (fun j => (((w : Int), (h : Int), L, D), rN x0 y0 cw ch, res, (rN x0 y0 cw ch, cutL L w x0 y0 cw (j * cw), cutD D w x0 y0 cw (j * cw), ()), rN x0 y0 cw ch, ((y0 + j : Nat) : Int), ())) (e := .exit 0)
    (z := (((w : Int), (h : Int), L, D), rN x0 y0 cw ch, res, (rN x0 y0 cw ch, cutL L w x0 y0 cw (ch * cw), cutD D w x0 y0 cw (ch * cw), ()), rN x0 y0 cw ch, ((y0 + ch : Nat) : Int), ())) (by simp) ch 0 rounds ?_ ?_ (rounds_gt (by omega))
  · unfold eachCut.l0
    simpa [cutL, cutD] using key
  · intro j _ hj
    have hj : j < ch := by omega
    have hl := C_l2 hL hD hs hc hx hy hj res
    unfold eachCut.t0
    simp only [tr_ite, tr_opt, tr_ret, List.take_length]
    rw [if_pos (by simp only [decide_eq_true_eq]; omega)]
    rw [hl, Option.bind_some, if_pos (by rfl)]
    simp only
    rw [Wsucc (by omega)]
    rfl
  · unfold eachCut.t0
    simp only [tr_ite, tr_opt, tr_ret, List.take_length, Nat.zero_add]
    rw [if_neg (by simp)]

theorem fits_eq (r : R4) {w h : Int} (hw : 0 < w) (hh : 0 < h) : tiles_fits (r, w, h) = some (decide (fits w h r)) := by
  unfold tiles_fits tiles_fits.t
  simp only [tr_opt, tr_ret]
  have e : split_Meet (r, 0, 0, w, h) = some (if meets r (0, 0, w, h) then (meet r (0, 0, w, h), true) else ((0, 0, 0, 0), false)) := Meet_eq r (0, 0, w, h)
  rw [e, Option.bind_some]
  have hall := Meet_all r hw hh
  congr 1
  by_cases hm : meets r (0, 0, w, h)
  · rw [if_pos hm]
    by_cases hf : fits w h r
    · rw [decide_eq_true hf]
      have := (hall.2 hf).2
      rw [this]; simp
    · rw [decide_eq_false hf]
      dsimp only
      cases hb : ((meet r (0, 0, w, h)).1 == r.1 && ((meet r (0, 0, w, h)).2.1 == r.2.1 && ((meet r (0, 0, w, h)).2.2.1 == r.2.2.1 && (meet r (0, 0, w, h)).2.2.2 == r.2.2.2)))
      · rfl
      · exfalso
        simp only [Bool.and_eq_true, beq_iff_eq] at hb
        exact hf (hall.1 ⟨hm, Prod.ext hb.1 (Prod.ext hb.2.1 (Prod.ext hb.2.2.1 hb.2.2.2))⟩)
  · rw [if_neg hm, decide_eq_false (fun hf => hm (hall.2 hf).1)]; rfl

theorem fits_rN {w h : Nat} {r : R4} (hf : fits w h r) : ∃ x0 y0 cw ch, r = rN x0 y0 cw ch ∧ 0 < cw ∧ 0 < ch ∧ x0 + cw ≤ w ∧ y0 + ch ≤ h := by
  obtain ⟨a, b, c, d⟩ := r
  unfold fits at hf
  dsimp only at hf
  refine ⟨a.toNat, b.toNat, (c - a).toNat, (d - b).toNat, ?_, by omega, by omega, by omega, by omega⟩
  unfold rN
  simp only [Prod.mk.injEq]
  omega

theorem Bands_no {w h : Int} (hm : ¬ may w h) : split_Bands (w, h, 1) = some ([], 12) := by
  unfold split_Bands split_Bands.t
  simp only [tr_ite, tr_ret, tr_opt, may_eq]
  rw [if_pos (by simp [hm])]

theorem Cut_eq {w h : Nat} (hm : may w h) (hL : L.length = 3 * (w * h)) (hD : D.length = w * h) (hs : w * h ≤ 100) (hc : 0 < cw) (hx : x0 + cw ≤ w) (hy : y0 + ch ≤ h) (hh : 0 < ch) :
    tiles_Cut (((w : Int), (h : Int), L, D), rN x0 y0 cw ch) = some ((rN x0 y0 cw ch, cutL L w x0 y0 cw (ch * cw), cutD D w x0 y0 cw (ch * cw)), 0) := by
  have hm' := hm
  unfold may at hm'
  unfold tiles_Cut tiles_Cut.t
  dsimp only
  simp only [tr_ite, tr_opt, tr_ret]
  have hb := Bands_eq (m := 1) hm (by omega) (by omega)
  have hwh : ((w : Int) * (h : Int)) = ((w * h : Nat) : Int) := by simp
  have e1 : W ((w : Int) * (h : Int)) = ((w * h : Nat) : Int) := by rw [hwh, W_nat (by omega)]
  have e2 : W (3 * ((w * h : Nat) : Int)) = ((3 * (w * h) : Nat) : Int) := W3 (by omega)
  have hb' : split_Bands ((w : Int), (h : Int), 1) = _ := hb
  rw [hb', Option.bind_some, if_neg (by simp), e1, e2, if_neg (by rw [hL, hD]; simp), fits_eq _ (by omega) (by omega), Option.bind_some]
  have hf : fits (w : Int) (h : Int) (rN x0 y0 cw ch) := by unfold fits rN; dsimp only; omega
  rw [decide_eq_true hf, if_neg (by simp)]
  have hl : eachCut.l0 (((w : Int), (h : Int), L, D), rN x0 y0 cw ch, ((0, 0, 0, 0), [], []), (rN x0 y0 cw ch, [], [], ()), rN x0 y0 cw ch, (rN x0 y0 cw ch).2.1, ()) = _ := C_l0 hL hD hs hc hx hy hh ((0, 0, 0, 0), [], [])
  rw [hl, Option.bind_some, if_pos (by rfl)]
  dsimp only
  rw [List.take_length, List.take_length]

theorem Cut_no {w h : Int} {r : R4} (hm : ¬ may w h) : tiles_Cut ((w, h, L, D), r) = some (((0, 0, 0, 0), [], []), 14) := by
  unfold tiles_Cut tiles_Cut.t
  dsimp only
  simp only [tr_ite, tr_opt, tr_ret]
  rw [Bands_no hm, Option.bind_some, if_pos (by simp)]

theorem Cut_size {w h : Nat} {r : R4} (hm : may w h) (hn : ¬ (L.length = 3 * (w * h) ∧ D.length = w * h)) : tiles_Cut (((w : Int), (h : Int), L, D), r) = some (((0, 0, 0, 0), [], []), 14) := by
  have hm' := hm
  unfold may at hm'
  unfold tiles_Cut tiles_Cut.t
  dsimp only
  simp only [tr_ite, tr_opt, tr_ret]
  have hwh : ((w : Int) * (h : Int)) = ((w * h : Nat) : Int) := by simp
  have e1 : W ((w : Int) * (h : Int)) = ((w * h : Nat) : Int) := by rw [hwh, W_nat (by omega)]
  have e2 : W (3 * ((w * h : Nat) : Int)) = ((3 * (w * h) : Nat) : Int) := by rw [W_id (by omega) (by omega)]; omega
  have hb' : split_Bands ((w : Int), (h : Int), 1) = _ := Bands_eq (m := 1) hm (by omega) (by omega)
  rw [hb', Option.bind_some, if_neg (by simp), e1, e2, if_pos ?_]
  simp only [Bool.not_eq_true', Bool.and_eq_false_iff, beq_eq_false_iff_ne, ne_eq]
  omega

theorem Cut_out {w h : Nat} {r : R4} (hm : may w h) (hL : L.length = 3 * (w * h)) (hD : D.length = w * h) (hf : ¬ fits w h r) : tiles_Cut (((w : Int), (h : Int), L, D), r) = some (((0, 0, 0, 0), [], []), 3) := by
  have hm' := hm
  unfold may at hm'
  unfold tiles_Cut tiles_Cut.t
  dsimp only
  simp only [tr_ite, tr_opt, tr_ret]
  have hwh : ((w : Int) * (h : Int)) = ((w * h : Nat) : Int) := by simp
  have e1 : W ((w : Int) * (h : Int)) = ((w * h : Nat) : Int) := by rw [hwh, W_nat (by omega)]
  have e2 : W (3 * ((w * h : Nat) : Int)) = ((3 * (w * h) : Nat) : Int) := by rw [W_id (by omega) (by omega)]; omega
  have hb' : split_Bands ((w : Int), (h : Int), 1) = _ := Bands_eq (m := 1) hm (by omega) (by omega)
  rw [hb', Option.bind_some, if_neg (by simp), e1, e2, if_neg (by rw [hL, hD]; simp), fits_eq _ (by omega) (by omega), Option.bind_some, decide_eq_false hf, if_pos (by rfl)]
end
end Go.Proofs.Pen

namespace Go.Proofs.Pen
open Go Go.Proofs

/-! ### A picture that is filled part by part -/
structure Fill (N : Nat) (L : List (Option Nat)) (D : List Int) (S : Nat → Prop) (OL : List (Option Nat)) (OD : List Int) : Prop where
  l1 : OL.length = 3 * N
  l2 : OD.length = N
  v : ∀ k, k < N → S k → OD[k]? = D[k]? ∧ ∀ c, c < 3 → OL[3 * k + c]? = L[3 * k + c]?

theorem Fill.put {N : Nat} {L : List (Option Nat)} {D : List Int} {S : Nat → Prop} {OL : List (Option Nat)} {OD : List Int} (h : Fill N L D S OL OD) (hL : L.length = 3 * N) (hD : D.length = N) {k : Nat} (hk : k < N) :
    Fill N L D (fun q => S q ∨ q = k) (overL OL (3 * k) (chunk L k)) (OD.set k (D.getD k 0)) := by
  have hc := chunk_len hL hk
  have h1 := h.l1
  have h2 := h.l2
  have hfit : 3 * k + (chunk L k).length ≤ OL.length := by omega
  refine ⟨by rw [overL_len hfit]; exact h1, by rw [List.length_set]; exact h2, fun q hq hS => ?_⟩
  by_cases hqk : q = k
  · subst hqk
    refine ⟨?_, fun c hcc => ?_⟩
    · rw [List.getElem?_set_self (by omega), List.getD_eq_getElem?_getD, List.getElem?_eq_getElem (by omega)]; rfl
    · rw [overL_get hfit, if_pos (by omega), show 3 * q + c - 3 * q = c by omega]
      unfold chunk
      rw [List.getElem?_take, if_pos hcc, List.getElem?_drop]
  · rcases hS with hS | hS
    · obtain ⟨g1, g2⟩ := h.v q hq hS
      refine ⟨by rw [List.getElem?_set_ne (fun e => hqk e.symm)]; exact g1, fun c hcc => ?_⟩
      rw [overL_get hfit, if_neg (by omega)]; exact g2 c hcc
    · exact absurd hS hqk

theorem Fill.mono {N : Nat} {L : List (Option Nat)} {D : List Int} {S S' : Nat → Prop} {OL : List (Option Nat)} {OD : List Int} (h : Fill N L D S OL OD) (k : ∀ q, S' q → S q) : Fill N L D S' OL OD :=
  ⟨h.l1, h.l2, fun q hq hS => h.v q hq (k q hS)⟩

theorem Fill.full {N : Nat} {L : List (Option Nat)} {D : List Int} {S : Nat → Prop} {OL : List (Option Nat)} {OD : List Int} (h : Fill N L D S OL OD) (hL : L.length = 3 * N) (hD : D.length = N) (hS : ∀ k, k < N → S k) : OL = L ∧ OD = D := by
  have h1 := h.l1
  have h2 := h.l2
  refine ⟨?_, ?_⟩
  · apply List.ext_getElem?
    intro i
    rcases Nat.lt_or_ge i (3 * N) with hi | hi
    · have hk : i / 3 < N := by omega
      have := (h.v (i / 3) hk (hS _ hk)).2 (i % 3) (by omega)
      rwa [show 3 * (i / 3) + i % 3 = i by omega] at this
    · rw [List.getElem?_eq_none (by omega), List.getElem?_eq_none (by omega)]
  · apply List.ext_getElem?
    intro i
    rcases Nat.lt_or_ge i N with hi | hi
    · exact (h.v i hi (hS _ hi)).1
    · rw [List.getElem?_eq_none (by omega), List.getElem?_eq_none (by omega)]

theorem cutL_split (L : List (Option Nat)) (w x0 y0 cw n : Nat) : ∀ (M : Nat), n < M → ∃ rest, cutL L w x0 y0 cw M = cutL L w x0 y0 cw n ++ (chunk L (cellAt w x0 y0 cw n) ++ rest)
  | 0, h => absurd h (Nat.not_lt_zero _)
  | M + 1, h => by
    by_cases he : n = M
    · subst he; exact ⟨[], by rw [cutL_succ]; simp⟩
    · obtain ⟨rest, e⟩ := cutL_split L w x0 y0 cw n M (by omega)
      exact ⟨rest ++ chunk L (cellAt w x0 y0 cw M), by rw [cutL_succ, e]; simp⟩

section
variable {w h x0 y0 cw ch : Nat} {L : List (Option Nat)} {D : List Int}

theorem cut_chunk (hL : L.length = 3 * (w * h)) (hc : 0 < cw) (hx : x0 + cw ≤ w) (hy : y0 + ch ≤ h) {n : Nat} (hn : n < ch * cw) :
    List.take 3 (List.take ((cutL L w x0 y0 cw (ch * cw)).length - 3 * n) (List.drop (3 * n) (cutL L w x0 y0 cw (ch * cw)))) = chunk L (cellAt w x0 y0 cw n) := by
  obtain ⟨rest, e⟩ := cutL_split L w x0 y0 cw n (ch * cw) hn
  have h1 := cutL_len hL hc hx hy (n := n) (by omega)
  have h3 := chunk_len hL (cellAt_lt hc hx hy hn)
  rw [e, List.drop_left' h1, List.length_append, h1, show 3 * n + (chunk L (cellAt w x0 y0 cw n) ++ rest).length - 3 * n = (chunk L (cellAt w x0 y0 cw n) ++ rest).length by omega, List.take_length, List.take_left' h3]

/-- The empty picture. -/
abbrev p0 : Int × Int × List (Option Nat) × List Int × Unit := (0, 0, [], [], ())

theorem J_l2 (hL : L.length = 3 * (w * h)) (hD : D.length = w * h) (hs : w * h ≤ 100) (hc : 0 < cw) (hx : x0 + cw ≤ w) (hy : y0 + ch ≤ h) {j : Nat} (hj : j < ch) {S : Nat → Prop} {OL : List (Option Nat)} {OD : List Int}
    (hg : Fill (w * h) L D (fun q => S q ∨ ∃ m, m < j * cw ∧ q = cellAt w x0 y0 cw m) OL OD) :
    ∃ OL' OD', eachJoin.l2 ((w : Int), p0, ((w : Int), (h : Int), OL, OD, ()), (rN x0 y0 cw ch, cutL L w x0 y0 cw (ch * cw), cutD D w x0 y0 cw (ch * cw)), ((j * cw : Nat) : Int), rN x0 y0 cw ch, ((y0 + j : Nat) : Int), (x0 : Int), ())
      = some (.exit 2, (w : Int), p0, ((w : Int), (h : Int), OL', OD', ()), (rN x0 y0 cw ch, cutL L w x0 y0 cw (ch * cw), cutD D w x0 y0 cw (ch * cw)), (((j + 1) * cw : Nat) : Int), rN x0 y0 cw ch, ((y0 + j : Nat) : Int), ((x0 + cw : Nat) : Int), ()) ∧
      Fill (w * h) L D (fun q => S q ∨ ∃ m, m < (j + 1) * cw ∧ q = cellAt w x0 y0 cw m) OL' OD' := by
  have hw100 : w ≤ 100 := by
    have : w * 1 ≤ w * h := Nat.mul_le_mul_left _ (by omega)
    omega
  have hjc : (j + 1) * cw ≤ ch * cw := Nat.mul_le_mul_right _ hj
  rw [Nat.succ_mul] at hjc ⊢
  have hcw : ch * cw ≤ w * h := by rw [Nat.mul_comm w h]; exact Nat.mul_le_mul (by omega) (by omega)
  have hPL := cutL_len hL hc hx hy (n := ch * cw) (Nat.le_refl _)
  have hPD := cutD_len D w x0 y0 cw (ch * cw)
  have key := iter_inv (t := eachJoin.t2) (fun x => ∃ (i : Nat) (OL1 : List (Option Nat)) (OD1 : List Int), x = ((w : Int), p0, ((w : Int), (h : Int), OL1, OD1, ()), (rN x0 y0 cw ch, cutL L w x0 y0 cw (ch * cw), cutD D w x0 y0 cw (ch * cw)), ((j * cw + i : Nat) : Int), rN x0 y0 cw ch, ((y0 + j : Nat) : Int), ((x0 + i : Nat) : Int), ()) ∧ i ≤ cw ∧ Fill (w * h) L D (fun q => S q ∨ ∃ m, m < j * cw + i ∧ q = cellAt w x0 y0 cw m) OL1 OD1)
    (fun x => (((x0 + cw : Nat) : Int) - x.2.2.2.2.2.2.2.1).toNat)
    (fun e z => e = .exit 2 ∧ ∃ OL1 OD1, z = ((w : Int), p0, ((w : Int), (h : Int), OL1, OD1, ()), (rN x0 y0 cw ch, cutL L w x0 y0 cw (ch * cw), cutD D w x0 y0 cw (ch * cw)), ((j * cw + cw : Nat) : Int), rN x0 y0 cw ch, ((y0 + j : Nat) : Int), ((x0 + cw : Nat) : Int), ()) ∧ Fill (w * h) L D (fun q => S q ∨ ∃ m, m < j * cw + cw ∧ q = cellAt w x0 y0 cw m) OL1 OD1)
    ?_ rounds _ ⟨0, OL, OD, rfl, Nat.zero_le _, hg⟩ (rounds_gt (by dsimp only; omega))
  · obtain ⟨e, z, h1, rfl, OL1, OD1, rfl, h2⟩ := key
    exact ⟨OL1, OD1, h1, h2⟩
  · rintro x ⟨i, OL1, OD1, rfl, hi, hg1⟩
    have g1 := hg1.l1
    have g2 := hg1.l2
    by_cases hic : i < cw
    · have hk : (y0 + j) * w + (x0 + i) < w * h := row_lt (by omega) (by omega)
      have hat := cellAt_row (w := w) (x0 := x0) (y0 := y0) (j := j) hic
      have hch := cut_chunk hL hc hx hy (n := j * cw + i) (by omega)
      obtain ⟨k, hkd⟩ : ∃ k, k = (y0 + j) * w + (x0 + i) := ⟨_, rfl⟩
      have hWa : W (W (((y0 + j : Nat) : Int) * (w : Int)) + ((x0 + i : Nat) : Int)) = (k : Int) := by rw [hkd]; exact Wat hs hk
      rw [← hkd] at hk hat
      rw [hat] at hch
      have hck := chunk_len hL hk
      unfold eachJoin.t2
      simp only [tr_ite, tr_opt, tr_ret, hWa, W3 (k := k) (by omega), W33 (k := k) (by omega), W3 (k := j * cw + i) (by omega), lget_nat, Int.toNat_natCast, Nat.zero_add]
      rw [show 3 * k + 3 - 3 * k = 3 by omega, hch]
      rw [if_pos (by simp only [decide_eq_true_eq]; omega), if_pos (by simp only [Bool.and_eq_true, decide_eq_true_eq]; omega), if_pos (by simp only [Bool.and_eq_true, decide_eq_true_eq]; omega)]
      have hpd : (cutD D w x0 y0 cw (ch * cw))[j * cw + i]? = some (D.getD k 0) := by
        unfold cutD
        rw [List.getElem?_map, List.getElem?_range (by omega), Option.map_some, hat]
      rw [hpd, Option.bind_some, if_pos (by simp only [Bool.and_eq_true, decide_eq_true_eq]; omega), List.getElem?_eq_getElem (by omega), Option.bind_some, Wsucc (by omega), Wsucc (by omega)]
      have hput := hg1.put hL hD hk
      have e1 : List.take OL1.length (overL OL1 (3 * k) (chunk L k)) = overL OL1 (3 * k) (chunk L k) := List.take_of_length_le (by rw [overL_len (by omega)]; omega)
      have e2 : List.take OD1.length (OD1.set k (D.getD k 0)) = OD1.set k (D.getD k 0) := List.take_of_length_le (by rw [List.length_set]; omega)
      rw [e1, e2]
      refine ⟨.normal, _, rfl, .inl ⟨rfl, ⟨i + 1, _, _, rfl, hic, hput.mono ?_⟩, by dsimp only; omega⟩⟩
      rintro q (hq | ⟨m, hm, rfl⟩)
      · exact .inl (.inl hq)
      · by_cases hmm : m = j * cw + i
        · subst hmm; exact .inr hat
        · exact .inl (.inr ⟨m, by omega, rfl⟩)
    · have : i = cw := by omega
      subst this
      unfold eachJoin.t2
      simp only [tr_ite, tr_opt, tr_ret]
      rw [if_neg (by simp)]
      simp only [List.take_length]
      exact ⟨.exit 2, _, rfl, .inr ⟨by simp, rfl, OL1, OD1, rfl, hg1⟩⟩

theorem J_l0 (hL : L.length = 3 * (w * h)) (hD : D.length = w * h) (hs : w * h ≤ 100) (hc : 0 < cw) (hx : x0 + cw ≤ w) (hy : y0 + ch ≤ h) {S : Nat → Prop} {OL : List (Option Nat)} {OD : List Int} (hg : Fill (w * h) L D S OL OD) :
    ∃ OL' OD' z, eachJoin.l0 ((w : Int), p0, ((w : Int), (h : Int), OL, OD, ()), (rN x0 y0 cw ch, cutL L w x0 y0 cw (ch * cw), cutD D w x0 y0 cw (ch * cw)), 0, rN x0 y0 cw ch, (y0 : Int), ())
      = some (.exit 0, (w : Int), p0, ((w : Int), (h : Int), OL', OD', ()), z) ∧
      Fill (w * h) L D (fun q => S q ∨ ∃ m, m < ch * cw ∧ q = cellAt w x0 y0 cw m) OL' OD' := by
  have hh100 : h ≤ 100 := by
    have : 1 * h ≤ w * h := Nat.mul_le_mul_right _ (by omega)
    omega
  have key := iter_inv (t := eachJoin.t0) (fun x => ∃ (j : Nat) (OL1 : List (Option Nat)) (OD1 : List Int), x = ((w : Int), p0, ((w : Int), (h : Int), OL1, OD1, ()), (rN x0 y0 cw ch, cutL L w x0 y0 cw (ch * cw), cutD D w x0 y0 cw (ch * cw)), ((j * cw : Nat) : Int), rN x0 y0 cw ch, ((y0 + j : Nat) : Int), ()) ∧ j ≤ ch ∧ Fill (w * h) L D (fun q => S q ∨ ∃ m, m < j * cw ∧ q = cellAt w x0 y0 cw m) OL1 OD1)
    (fun x => (((y0 + ch : Nat) : Int) - x.2.2.2.2.2.2.1).toNat)
    (fun e z => e = .exit 0 ∧ ∃ OL1 OD1 z1, z = ((w : Int), p0, ((w : Int), (h : Int), OL1, OD1, ()), z1) ∧ Fill (w * h) L D (fun q => S q ∨ ∃ m, m < ch * cw ∧ q = cellAt w x0 y0 cw m) OL1 OD1)
    ?_ rounds ((w : Int), p0, ((w : Int), (h : Int), OL, OD, ()), (rN x0 y0 cw ch, cutL L w x0 y0 cw (ch * cw), cutD D w x0 y0 cw (ch * cw)), 0, rN x0 y0 cw ch, (y0 : Int), ()) ⟨0, OL, OD, by simp, Nat.zero_le _, hg.mono (by rintro q (hq | ⟨m, hm, _⟩); exact hq; omega)⟩ (rounds_gt (by dsimp only; omega))
  · obtain ⟨e, z, h1, rfl, OL1, OD1, z1, rfl, h2⟩ := key
    exact ⟨OL1, OD1, z1, h1, h2⟩
  · rintro x ⟨j, OL1, OD1, rfl, hj, hg1⟩
    unfold eachJoin.t0
    simp only [tr_ite, tr_opt, tr_ret, List.take_length]
    by_cases hjc : j < ch
    · obtain ⟨OL2, OD2, hl, hg2⟩ := J_l2 hL hD hs hc hx hy hjc hg1
      rw [if_pos (by simp only [decide_eq_true_eq]; omega), hl, Option.bind_some, if_pos (by rfl)]
      simp only
      rw [Wsucc (by omega)]
      exact ⟨.normal, _, rfl, .inl ⟨rfl, ⟨j + 1, OL2, OD2, rfl, hjc, hg2⟩, by dsimp only; omega⟩⟩
    · have : j = ch := by omega
      subst this
      rw [if_neg (by simp)]
      exact ⟨.exit 0, _, rfl, .inr ⟨by simp, rfl, OL1, OD1, _, rfl, hg1⟩⟩
end

/-- A part's piece. -/
def pc (L : List (Option Nat)) (D : List Int) (w : Nat) (r : R4) : R4 × List (Option Nat) × List Int :=
  (r, cutL L w r.1.toNat r.2.1.toNat (r.2.2.1 - r.1).toNat ((r.2.2.2 - r.2.1).toNat * (r.2.2.1 - r.1).toNat), cutD D w r.1.toNat r.2.1.toNat (r.2.2.1 - r.1).toNat ((r.2.2.2 - r.2.1).toNat * (r.2.2.1 - r.1).toNat))
theorem pc_rN (L : List (Option Nat)) (D : List Int) (w x0 y0 cw ch : Nat) : pc L D w (rN x0 y0 cw ch) = (rN x0 y0 cw ch, cutL L w x0 y0 cw (ch * cw), cutD D w x0 y0 cw (ch * cw)) := by
  unfold pc
  dsimp only
  rw [Int.toNat_natCast, Int.toNat_natCast, show (((y0 + ch : Nat) : Int) - (y0 : Int)).toNat = ch by omega, show (((x0 + cw : Nat) : Int) - (x0 : Int)).toNat = cw by omega]

def cov (w : Nat) (r : R4) (q : Nat) : Prop := ∃ m, m < (r.2.2.2 - r.2.1).toNat * (r.2.2.1 - r.1).toNat ∧ q = cellAt w r.1.toNat r.2.1.toNat (r.2.2.1 - r.1).toNat m
theorem cov_rN (w x0 y0 cw ch q : Nat) : cov w (rN x0 y0 cw ch) q ↔ ∃ m, m < ch * cw ∧ q = cellAt w x0 y0 cw m := by
  unfold cov
  dsimp only
  rw [Int.toNat_natCast, Int.toNat_natCast, show (((y0 + ch : Nat) : Int) - (y0 : Int)).toNat = ch by omega, show (((x0 + cw : Nat) : Int) - (x0 : Int)).toNat = cw by omega]

theorem cov_of {w h : Nat} {r : R4} (hf : fits w h r) {q : Nat} (hp : hasP w r q = true) : cov w r q := by
  obtain ⟨x0, y0, cw, ch, rfl, hc, hch, hx, hy⟩ := fits_rN hf
  rw [cov_rN]
  unfold hasP at hp
  rw [has_iff] at hp
  dsimp only at hp
  obtain ⟨p1, p2, p3, p4⟩ := hp
  refine ⟨(q / w - y0) * cw + (q % w - x0), ?_, ?_⟩
  · have : (q / w - y0 + 1) * cw ≤ ch * cw := Nat.mul_le_mul_right _ (by omega)
    rw [Nat.succ_mul] at this; omega
  · rw [cellAt_row (by omega), show y0 + (q / w - y0) = q / w by omega, show x0 + (q % w - x0) = q % w by omega, Nat.mul_comm]
    exact (Nat.div_add_mod q w).symm

theorem area_rN (x0 y0 cw ch : Nat) : area (rN x0 y0 cw ch) = ((ch * cw : Nat) : Int) := by
  unfold area
  dsimp only
  rw [show ((x0 + cw : Nat) : Int) - (x0 : Int) = (cw : Int) by omega, show ((y0 + ch : Nat) : Int) - (y0 : Int) = (ch : Int) by omega, Int.mul_comm]
  simp

section
variable {w h : Nat} {L : List (Option Nat)} {D : List Int}

theorem Jl2 (hL : L.length = 3 * (w * h)) (hD : D.length = w * h) (hs : w * h ≤ 100) {rs : List R4} (hf : ∀ r ∈ rs, fits w h r) (hn : rs.length ≤ 1000) {OL : List (Option Nat)} {OD : List Int} (h1 : OL.length = 3 * (w * h)) (h2 : OD.length = w * h) :
    ∃ OL' OD' z, tiles_Join.l2 ((w : Int), p0, ((w : Int), (h : Int), OL, OD, ()), rs.map (pc L D w), ((rs.length : Nat) : Int), 0, ())
      = some (.exit 2, (w : Int), p0, ((w : Int), (h : Int), OL', OD', ()), z) ∧ Fill (w * h) L D (fun q => ∃ r ∈ rs, cov w r q) OL' OD' := by
  have key := iter_inv (t := tiles_Join.t2) (fun x => ∃ (i : Nat) (OL1 : List (Option Nat)) (OD1 : List Int), x = ((w : Int), p0, ((w : Int), (h : Int), OL1, OD1, ()), rs.map (pc L D w), ((rs.length : Nat) : Int), (i : Int), ()) ∧ i ≤ rs.length ∧ Fill (w * h) L D (fun q => ∃ r ∈ rs.take i, cov w r q) OL1 OD1)
    (fun x => (((rs.length : Nat) : Int) - x.2.2.2.2.2.1).toNat)
    (fun e z => e = .exit 2 ∧ ∃ OL1 OD1 z1, z = ((w : Int), p0, ((w : Int), (h : Int), OL1, OD1, ()), z1) ∧ Fill (w * h) L D (fun q => ∃ r ∈ rs, cov w r q) OL1 OD1)
    ?_ rounds ((w : Int), p0, ((w : Int), (h : Int), OL, OD, ()), rs.map (pc L D w), ((rs.length : Nat) : Int), 0, ()) ⟨0, OL, OD, rfl, Nat.zero_le _, ⟨h1, h2, fun k _ hS => by simp at hS⟩⟩ (rounds_gt (by dsimp only; omega))
  · obtain ⟨e, z, h1, rfl, OL1, OD1, z1, rfl, h2⟩ := key
    exact ⟨OL1, OD1, z1, h1, h2⟩
  · rintro x ⟨i, OL1, OD1, rfl, hi, hg1⟩
    unfold tiles_Join.t2
    simp only [tr_ite, tr_opt, tr_ret, List.take_length, lget_nat]
    by_cases hic : i < rs.length
    · obtain ⟨x0, y0, cw, ch, hr, hc, hch, hx, hy⟩ := fits_rN (hf _ (List.getElem_mem hic))
      obtain ⟨OL2, OD2, z, hl, hg2⟩ := J_l0 hL hD hs hc hx hy hg1
      rw [if_pos (by simp only [decide_eq_true_eq]; omega), List.getElem?_map, List.getElem?_eq_getElem hic, Option.map_some, Option.bind_some, hr, pc_rN]
      dsimp only
      rw [hl, Option.bind_some, if_pos (by rfl)]
      simp only
      rw [Wsucc (by omega)]
      refine ⟨.normal, _, rfl, .inl ⟨rfl, ⟨i + 1, OL2, OD2, rfl, hic, hg2.mono ?_⟩, by dsimp only; omega⟩⟩
      rintro q ⟨r, hr2, hq⟩
      rw [List.take_succ_eq_append_getElem hic, List.mem_append] at hr2
      rcases hr2 with hr2 | hr2
      · exact .inl ⟨r, hr2, hq⟩
      · rw [List.mem_singleton, hr] at hr2
        subst hr2
        exact .inr ((cov_rN _ _ _ _ _ _).1 hq)
    · have : i = rs.length := by omega
      subst this
      rw [if_neg (by simp)]
      exact ⟨.exit 2, _, rfl, .inr ⟨by simp, rfl, OL1, OD1, _, rfl, by rw [List.take_length] at hg1; exact hg1⟩⟩

theorem Size_rN {x0 y0 cw ch : Nat} (hc : 0 < cw) (hch : 0 < ch) (hx : x0 + cw ≤ w) (hy : y0 + ch ≤ h) (hw : w ≤ 8192) (hh : h ≤ 8192) : split_Size (rN x0 y0 cw ch) = some ((ch * cw : Nat) : Int) := by
  rw [Size_eq (by unfold fits; dsimp only; omega), area_rN]

/-- The parts' sizes are right. -/
theorem Jl0 (hL : L.length = 3 * (w * h)) (hs : w * h ≤ 100) (hw : w ≤ 8192) (hh : h ≤ 8192) {rs : List R4} (hf : ∀ r ∈ rs, fits w h r) (hn : rs.length ≤ 1000) (e0 : Int) :
    ∃ z, tiles_Join.l0 ((h : Int), rs.map (pc L D w), (w : Int), p0, e0, [], rs.map (pc L D w), ((rs.length : Nat) : Int), 0, ())
      = some (.exit 0, (h : Int), rs.map (pc L D w), (w : Int), p0, e0, rs, z) := by
  have key := iter_inv (t := tiles_Join.t0) (fun x => ∃ i : Nat, x = ((h : Int), rs.map (pc L D w), (w : Int), p0, e0, rs.take i, rs.map (pc L D w), ((rs.length : Nat) : Int), (i : Int), ()) ∧ i ≤ rs.length)
    (fun x => (((rs.length : Nat) : Int) - x.2.2.2.2.2.2.2.2.1).toNat)
    (fun e z => e = .exit 0 ∧ ∃ z1, z = ((h : Int), rs.map (pc L D w), (w : Int), p0, e0, rs, z1))
    ?_ rounds ((h : Int), rs.map (pc L D w), (w : Int), p0, e0, [], rs.map (pc L D w), ((rs.length : Nat) : Int), 0, ()) ⟨0, by simp, Nat.zero_le _⟩ (rounds_gt (by dsimp only; omega))
  · obtain ⟨e, z, h1, rfl, z1, rfl⟩ := key
    exact ⟨z1, h1⟩
  · rintro x ⟨i, rfl, hi⟩
    unfold tiles_Join.t0
    simp only [tr_ite, tr_opt, tr_ret, List.take_length, lget_nat]
    by_cases hic : i < rs.length
    · obtain ⟨x0, y0, cw, ch, hr, hc, hch, hx, hy⟩ := fits_rN (hf _ (List.getElem_mem hic))
      have hcw : ch * cw ≤ w * h := by rw [Nat.mul_comm w h]; exact Nat.mul_le_mul (by omega) (by omega)
      rw [if_pos (by simp only [decide_eq_true_eq]; omega), List.getElem?_map, List.getElem?_eq_getElem hic, Option.map_some, Option.bind_some, hr, pc_rN, Size_rN hc hch hx hy hw hh, Option.bind_some]
      simp only [cutL_len hL hc hx hy (n := ch * cw) (Nat.le_refl _), cutD_len, W3 (k := ch * cw) (by omega), beq_self_eq_true, Bool.and_self, Bool.not_true, Bool.false_eq_true, if_false]
      have hlen : (rs.take i).length = i := by rw [List.length_take]; omega
      rw [if_pos (decide_eq_true (by rw [hlen]; unfold most; omega)), Wsucc (by omega)]
      refine ⟨.normal, _, rfl, .inl ⟨rfl, ⟨i + 1, ?_, hic⟩, by dsimp only; omega⟩⟩
      have e4 : rs.take (i + 1) = rs.take i ++ [rN x0 y0 cw ch] := by rw [List.take_succ_eq_append_getElem hic, hr]
      have e5 : List.take ((rs.take i).length + 1) (rs.take i ++ [rN x0 y0 cw ch]) = rs.take i ++ [rN x0 y0 cw ch] := List.take_of_length_le (by simp)
      rw [e4, e5]
    · have : i = rs.length := by omega
      subst this
      rw [if_neg (by simp), List.take_length]
      exact ⟨.exit 0, _, rfl, .inr ⟨by simp, rfl, _, rfl⟩⟩

/-- The first part's size is wrong. -/
theorem Jl0_bad {x0 y0 cw ch : Nat} (hc : 0 < cw) (hch : 0 < ch) (hx : x0 + cw ≤ w) (hy : y0 + ch ≤ h) (hw : w ≤ 8192) (hh : h ≤ 8192) (hs : ch * cw ≤ 100) {PL : List (Option Nat)} {PD : List Int} (hbad : PL.length ≠ 3 * (ch * cw)) (ps : List (R4 × List (Option Nat) × List Int)) (e0 : Int) :
    ∃ z, tiles_Join.l0 ((h : Int), (rN x0 y0 cw ch, PL, PD) :: ps, (w : Int), p0, e0, [], (rN x0 y0 cw ch, PL, PD) :: ps, ((((rN x0 y0 cw ch, PL, PD) :: ps).length : Nat) : Int), 0, ())
      = some (.ret, (h : Int), (rN x0 y0 cw ch, PL, PD) :: ps, (w : Int), p0, 14, z) := by
  unfold tiles_Join.l0
  have h0 : (tiles_Join.t0 ((h : Int), (rN x0 y0 cw ch, PL, PD) :: ps, (w : Int), p0, e0, [], (rN x0 y0 cw ch, PL, PD) :: ps, ((((rN x0 y0 cw ch, PL, PD) :: ps).length : Nat) : Int), 0, ())).run
      = some (.ret, (h : Int), (rN x0 y0 cw ch, PL, PD) :: ps, (w : Int), p0, 14, [], (rN x0 y0 cw ch, PL, PD) :: ps, ((((rN x0 y0 cw ch, PL, PD) :: ps).length : Nat) : Int), 0, ()) := by
    unfold tiles_Join.t0
    simp only [tr_ite, tr_opt, tr_ret]
    rw [if_pos (by simp only [decide_eq_true_eq, List.length_cons]; omega)]
    rw [show lget ((rN x0 y0 cw ch, PL, PD) :: ps) 0 = some (rN x0 y0 cw ch, PL, PD) from rfl, Option.bind_some, Size_rN hc hch hx hy hw hh, Option.bind_some, W3 (by omega)]
    rw [if_pos]
    · rfl
    · simp only [Bool.not_eq_true', Bool.and_eq_false_iff, beq_eq_false_iff_ne, ne_eq]
      left; omega
  exact ⟨_, iter_step (n := rounds - 1) h0⟩
end
end Go.Proofs.Pen

namespace Go.Proofs.Pen
open Go Go.Proofs

/-- What the law asks behind the first cut. -/
noncomputable def lawTail (x : (Int × Int × List (Option Nat) × List (Int)) × Int × (Int × Int × Int × Int)) : T Bool := T.opt (split_Tiles (x.1.1, x.1.2.1, W (W (Int.tmod x.2.1 (5 : Int)) + (1 : Int)))) fun y => T.opt (law38_TilesCuts.l0 (x.1, false, y.1, y.2, [], W ((↑(List.length y.1) : Int) - (1 : Int)), ())) fun y => T.ite (exEq y.1 (Ex.exit (0 : Nat))) (T.opt (tiles_Join (y.2.1.1, y.2.1.2.1, List.take y.2.2.2.2.2.1.length y.2.2.2.2.2.1)) fun y_1 => T.ite (y.2.2.2.2.1 != (0 : Int) || y_1.snd != (0 : Int) || (↑(List.length y_1.fst.snd.snd.fst) : Int) != (↑(List.length y.2.1.2.2.1) : Int)) (T.ret false) (T.opt (ref21_Floats (y_1.fst.snd.snd.fst, y.2.1.2.2.1)) fun y_2 => T.ite (!y_2) (T.ret false) (T.opt (ref01_Ints (y_1.fst.snd.snd.snd, y.2.1.2.2.2)) fun y_3 => T.ite (!y_3) (T.ret false) (T.ite (decide ((0 : Int) ≤ (1 : Int)) && decide ((1 : Int) ≤ (↑y.2.2.2.2.2.1.length : Int)) && decide ((↑y.2.2.2.2.2.1.length : Int) ≤ (↑y.2.2.2.2.2.1.length : Int))) (T.opt (tiles_Join (y.2.1.1, y.2.1.2.1, List.take ((↑y.2.2.2.2.2.1.length : Int).toNat - Int.toNat (1 : Int)) (List.drop ((0 : Nat) + Int.toNat (1 : Int)) y.2.2.2.2.2.1))) fun y_4 => T.ite (decide ((0 : Int) ≤ (0 : Int)) && decide ((0 : Int) < (↑y.2.2.2.2.2.1.length : Int))) (T.opt y.2.2.2.2.2.1[(0 : Nat) + Int.toNat (0 : Int)]? fun y_5 => T.ite (decide ((0 : Int) ≤ (1 : Int)) && decide ((1 : Int) ≤ (↑(List.length y_5.snd.fst) : Int)) && decide ((↑(List.length y_5.snd.fst) : Int) ≤ (↑(List.length y_5.snd.fst) : Int))) (T.ite (decide (((0 : Nat) + (List.take ((↑(List.length y_5.snd.fst) : Int).toNat - Int.toNat (1 : Int)) (List.drop (Int.toNat (1 : Int)) y_5.snd.fst)).length) * nat_lit 8 ≤ most)) (T.ite (decide ((0 : Int) ≤ (0 : Int)) && decide ((0 : Int) < (↑y.2.2.2.2.2.1.length : Int))) (T.opt y.2.2.2.2.2.1[(0 : Nat) + Int.toNat (0 : Int)]? fun y_6 => T.opt (tiles_Join (y.2.1.1, y.2.1.2.1, List.take y.2.2.2.2.2.1.length (y.2.2.2.2.2.1.set ((0 : Nat) + Int.toNat (0 : Int)) (y_6.fst, List.take ((0 : Nat) + (List.take ((↑(List.length y_5.snd.fst) : Int).toNat - Int.toNat (1 : Int)) (List.drop (Int.toNat (1 : Int)) y_5.snd.fst)).length) (List.take (0 : Nat) [] ++ List.take ((↑(List.length y_5.snd.fst) : Int).toNat - Int.toNat (1 : Int)) (List.drop (Int.toNat (1 : Int)) y_5.snd.fst)), y_6.snd.snd)))) fun y => T.ret (y_4.snd == (2 : Int) && y.2 == (14 : Int))) T.fail) T.fail) T.fail) T.fail) T.fail)))) (T.ite (exEq y.1 Ex.ret) (T.ret y.2.2.1) T.fail)

theorem tr_yes {α : Type} {b : Bool} {x y : T α} (h : b = true) : (T.ite b x y).run = x.run := by subst h; rfl
theorem tr_no {α : Type} {b : Bool} {x y : T α} (h : b = false) : (T.ite b x y).run = y.run := by subst h; rfl
theorem tr_some {α ρ : Type} {o : Option ρ} {r : ρ} {k : ρ → T α} (h : o = some r) : (T.opt o k).run = (k r).run := by subst h; rfl

section
variable {w h : Nat} {L : List (Option Nat)} {D : List Int}

open Classical in
theorem Join_eq (hm : may w h) (hL : L.length = 3 * (w * h)) (hD : D.length = w * h) (hs : w * h ≤ 100) {rs : List R4} (hf : ∀ r ∈ rs, fits w h r) (hn : rs.length ≤ 1000) :
    tiles_Join ((w : Int), (h : Int), rs.map (pc L D w)) = some (if apart rs ∧ (rs.map area).sum = (w : Int) * h then (((w : Int), (h : Int), L, D), 0) else ((0, 0, [], []), 2)) := by
  have hm' := hm
  unfold may at hm'
  obtain ⟨z, hz⟩ := Jl0 (D := D) hL hs (by omega) (by omega) hf hn 0
  have hwh : ((w : Int) * (h : Int)) = ((w * h : Nat) : Int) := by simp
  have e1 : W ((w : Int) * (h : Int)) = ((w * h : Nat) : Int) := by rw [hwh, W_nat (by omega)]
  have hw1 : w ≤ 8192 := by omega
  have e2 : W (W (3 * (w : Int)) * (h : Int)) = ((3 * (w * h) : Nat) : Int) := by
    rw [W_id (n := 3 * (w : Int)) (by omega) (by omega), Int.mul_assoc, hwh, W3 (by omega)]
  unfold tiles_Join tiles_Join.t
  rw [tr_some (r := (.exit 0, (h : Int), rs.map (pc L D w), (w : Int), p0, 0, rs, z)) (by dsimp only; rw [List.length_map]; exact hz)]
  rw [tr_yes (by rfl)]
  rw [tr_some (r := decide (apart rs ∧ (rs.map area).sum = (w : Int) * h)) (by
    dsimp only
    rw [List.take_length, SWhole_eq]
    congr 1
    apply decide_eq_decide.2
    constructor
    · rintro ⟨_, _, _, q1, q2⟩; exact ⟨q1, q2⟩
    · rintro ⟨q1, q2⟩; exact ⟨hm, by omega, hf, q1, q2⟩)]
  by_cases hw : apart rs ∧ (rs.map area).sum = (w : Int) * h
  · rw [if_pos hw, tr_no (by simp [hw])]
    obtain ⟨OL, OD, z2, hz2, hg⟩ := Jl2 (L := L) (D := D) hL hD hs hf hn (OL := List.replicate (3 * (w * h)) (some 0)) (OD := List.replicate (w * h) 0) (by simp) (by simp)
    rw [tr_yes (by simp only [e2, Bool.and_eq_true, decide_eq_true_eq]; unfold most; omega), tr_yes (by simp only [e1, Bool.and_eq_true, decide_eq_true_eq]; unfold most; omega)]
    rw [tr_some (r := (.exit 2, (w : Int), p0, ((w : Int), (h : Int), OL, OD, ()), z2)) (by
      dsimp only
      rw [e1, e2, Int.toNat_natCast, Int.toNat_natCast, List.take_of_length_le (l := List.replicate (3 * (w * h)) _) (by simp), List.take_of_length_le (l := List.replicate (w * h) _) (by simp), List.length_map]
      exact hz2)]
    rw [tr_yes (by rfl), tr_ret]
    have honce := (once_iff hf).2 hw
    obtain ⟨rfl, rfl⟩ := hg.full hL hD (fun k hk => by
      have h1 := honce k hk
      have : 0 < rs.countP fun r => hasP w r k := by omega
      obtain ⟨r, hr, hp⟩ := List.countP_pos_iff.1 this
      exact ⟨r, hr, cov_of (hf r hr) hp⟩)
    dsimp only
    rw [List.take_length, List.take_length]
  · rw [if_neg hw, tr_yes (by simp [hw]), tr_ret]

theorem Join_bad (hm : may w h) {x0 y0 cw ch : Nat} (hc : 0 < cw) (hch : 0 < ch) (hx : x0 + cw ≤ w) (hy : y0 + ch ≤ h) (hs : ch * cw ≤ 100) {PL : List (Option Nat)} {PD : List Int} (hbad : PL.length ≠ 3 * (ch * cw)) (ps : List (R4 × List (Option Nat) × List Int)) :
    tiles_Join ((w : Int), (h : Int), (rN x0 y0 cw ch, PL, PD) :: ps) = some ((0, 0, [], []), 14) := by
  have hm' := hm
  unfold may at hm'
  obtain ⟨z, hz⟩ := Jl0_bad hc hch hx hy (w := w) (h := h) (by omega) (by omega) hs hbad (PD := PD) ps 0
  unfold tiles_Join tiles_Join.t
  rw [tr_some (r := (.ret, (h : Int), (rN x0 y0 cw ch, PL, PD) :: ps, (w : Int), p0, 14, z)) hz]
  rw [tr_no (by rfl), tr_yes (by rfl)]
  rfl

theorem ford_same (y : Option Nat) : (ford y y == some Ordering.eq || ford y y != some Ordering.eq && ford y y != some Ordering.eq) = true := by
  cases hb : ford y y == some Ordering.eq <;> simp [bne, hb]

theorem Floats_self (l : List (Option Nat)) (hl : l.length ≤ 100000) : ref21_Floats (l, l) = some true := by
  unfold ref21_Floats ref21_Floats.t
  rw [tr_no (by simp)]
  have key := iter_count (t := ref21_Floats.t0) (fun i => (l, l, false, (i : Int), ())) (e := .exit 0) (z := (l, l, false, ((l.length : Nat) : Int), ())) (by simp) l.length 0 rounds ?_ ?_ (rounds_gt (by omega))
  · rw [tr_some (r := (.exit 0, l, l, false, ((l.length : Nat) : Int), ())) key, tr_yes (by rfl)]; rfl
  · intro i _ hi
    have hi : i < l.length := by omega
    unfold ref21_Floats.t0
    dsimp only
    rw [tr_yes (by simpa using hi), tr_some (r := l[i]) (by rw [lget_nat, List.getElem?_eq_getElem hi]), tr_some (r := l[i]) (by rw [lget_nat, List.getElem?_eq_getElem hi]), tr_no (by rw [ford_same]; rfl), tr_ret, Wsucc (by omega)]
  · unfold ref21_Floats.t0
    dsimp only
    rw [tr_no (by simp), tr_ret, Nat.zero_add]

theorem Ints_self (l : List Int) (hl : l.length ≤ 100000) : ref01_Ints (l, l) = some true := by
  unfold ref01_Ints ref01_Ints.t
  rw [tr_no (by simp)]
  have key := iter_count (t := ref01_Ints.t0) (fun i => (l, l, false, (i : Int), ())) (e := .exit 0) (z := (l, l, false, ((l.length : Nat) : Int), ())) (by simp) l.length 0 rounds ?_ ?_ (rounds_gt (by omega))
  · rw [tr_some (r := (.exit 0, l, l, false, ((l.length : Nat) : Int), ())) key, tr_yes (by rfl)]; rfl
  · intro i _ hi
    have hi : i < l.length := by omega
    unfold ref01_Ints.t0
    dsimp only
    rw [tr_yes (by simpa using hi), tr_some (r := l[i]) (by rw [lget_nat, List.getElem?_eq_getElem hi]), tr_some (r := l[i]) (by rw [lget_nat, List.getElem?_eq_getElem hi]), tr_no (by simp), tr_ret, Wsucc (by omega)]
  · unfold ref01_Ints.t0
    dsimp only
    rw [tr_no (by simp), tr_ret, Nat.zero_add]

theorem Law_l0 (hm : may w h) (hL : L.length = 3 * (w * h)) (hD : D.length = w * h) (hs : w * h ≤ 100) {rs : List R4} (hf : ∀ r ∈ rs, fits w h r) (hn : rs.length ≤ 1000) :
    law38_TilesCuts.l0 (((w : Int), (h : Int), L, D), false, rs, 0, [], W ((rs.length : Int) - 1), ()) = some (.exit 0, ((w : Int), (h : Int), L, D), false, rs, 0, rs.reverse.map (pc L D w), -1, ()) := by
  have key := iter_count (t := law38_TilesCuts.t0) (fun q => (((w : Int), (h : Int), L, D), false, rs, 0, (rs.reverse.take q).map (pc L D w), (rs.length : Int) - 1 - q, ())) (e := .exit 0)
    (z := (((w : Int), (h : Int), L, D), false, rs, 0, rs.reverse.map (pc L D w), -1, ())) (by simp) rs.length 0 rounds ?_ ?_ (rounds_gt (by omega))
  · rw [W_id (by omega) (by omega)]
    unfold law38_TilesCuts.l0
    simpa using key
  · intro q _ hq
    have hq : q < rs.length := by omega
    have hi : rs.length - 1 - q < rs.length := by omega
    have hmem : rs[rs.length - 1 - q] ∈ rs := List.getElem_mem hi
    obtain ⟨x0, y0, cw, ch, hr, hc, hch, hx, hy⟩ := fits_rN (hf _ hmem)
    have hcut := Cut_eq hm hL hD hs hc hx hy hch
    rw [← pc_rN, ← hr] at hcut
    have e0 : (rs.length : Int) - 1 - (q : Int) = ((rs.length - 1 - q : Nat) : Int) := by omega
    have hlen : ((rs.reverse.take q).map (pc L D w)).length = q := by simp; omega
    have hrev : rs.reverse[q]'(by simpa using hq) = rs[rs.length - 1 - q] := by rw [List.getElem_reverse]
    unfold law38_TilesCuts.t0
    dsimp only
    rw [tr_yes (by simp only [decide_eq_true_eq]; omega)]
    rw [tr_some (r := rs[rs.length - 1 - q]) (by rw [e0, lget_nat, List.getElem?_eq_getElem hi])]
    rw [tr_some hcut, tr_no (by rfl), tr_yes (by rw [hlen]; exact decide_eq_true (by unfold most; omega)), tr_ret, take_snoc]
    rw [List.take_succ_eq_append_getElem (by simpa using hq), List.map_append, hrev, W_id (by omega) (by omega)]
    simp only [List.map_cons, List.map_nil]
    rw [show (rs.length : Int) - 1 - (q : Int) - 1 = (rs.length : Int) - 1 - ((q + 1 : Nat) : Int) by omega]
  · unfold law38_TilesCuts.t0
    dsimp only
    rw [tr_no (by simp; omega), tr_ret, List.take_length, Nat.zero_add]
    rw [show List.take rs.length rs.reverse = rs.reverse from List.take_of_length_le (by simp), show (rs.length : Int) - 1 - ((rs.length : Nat) : Int) = -1 by omega]

theorem side5 {x : Int} (h1 : 0 ≤ x) : ∃ n : Nat, W (W (Int.tmod x 5) + 1) = n ∧ 1 ≤ n ∧ n ≤ 5 := by
  have h := tdv x (k := 5) (by decide)
  rw [W_id (n := x.tmod 5) (by omega) (by omega), W_id (by omega) (by omega)]
  exact ⟨(x.tmod 5 + 1).toNat, by omega, by omega, by omega⟩

theorem once_rev {w h : Nat} {l : List R4} (ho : once w h l) : once w h l.reverse := fun p hp => by rw [List.countP_reverse]; exact ho p hp

theorem Law_tail (hm : may w h) (hL : L.length = 3 * (w * h)) (hD : D.length = w * h) (hs : w * h ≤ 100) {side : Int} (h1 : 0 ≤ side) (r : R4) : (lawTail (((w : Int), (h : Int), L, D), side, r)).run = some true := by
  have hm' := hm
  unfold may at hm'
  obtain ⟨s, hsd, s1, s5⟩ := side5 h1
  have hw : 0 < w := by omega
  have hh : 0 < h := by omega
  obtain ⟨A, hA⟩ : ∃ A, A = (w - 1) / s + 1 := ⟨_, rfl⟩
  obtain ⟨B, hB⟩ : ∃ B, B = (h - 1) / s + 1 := ⟨_, rfl⟩
  have hA1 : A ≤ w := by rw [hA]; have := Nat.div_le_self (w - 1) s; omega
  have hB1 : B ≤ h := by rw [hB]; have := Nat.div_le_self (h - 1) s; omega
  have hA0 : 1 ≤ A := by rw [hA]; exact Nat.le_add_left 1 _
  have hB0 : 1 ≤ B := by rw [hB]; exact Nat.le_add_left 1 _
  have hAB : A * B ≤ w * h := Nat.mul_le_mul hA1 hB1
  have hAB0 : 1 * 1 ≤ A * B := Nat.mul_le_mul hA0 hB0
  have ht := Tiles_eq (s := s) hm (by omega) (by omega) hA hB
  rw [if_pos (by omega)] at ht
  have hf : ∀ r ∈ tl w h s A (A * B), fits w h r := fun r hr => by
    unfold tl at hr
    rw [List.mem_map] at hr
    obtain ⟨k, hk, rfl⟩ := hr
    exact tile_fits (by omega) hw hh hA hB (List.mem_range.1 hk)
  have honce := tile_once (s := s) (by omega) hw hh hA hB
  have hlen : (tl w h s A (A * B)).length = A * B := tl_len _ _ _ _ _
  generalize hrs : tl w h s A (A * B) = rs at ht hf honce hlen
  have hl0 := Law_l0 hm hL hD hs hf (by omega)
  have hfr : ∀ r ∈ rs.reverse, fits w h r := fun r hr => hf r (List.mem_reverse.1 hr)
  have hwhole := (once_iff hfr).1 (once_rev honce)
  have hj := Join_eq hm hL hD hs hfr (by simp; omega)
  rw [if_pos hwhole] at hj
  obtain ⟨r0, rt, hrr⟩ : ∃ r0 rt, rs.reverse = r0 :: rt := by
    cases hc : rs.reverse with
    | nil => have := congrArg List.length hc; simp at this; subst this; simp at hlen; omega
    | cons a b => exact ⟨a, b, rfl⟩
  rw [hrr] at hj hl0 hfr hwhole
  have hrl : rt.length + 1 = rs.length := by have := congrArg List.length hrr; simpa using this.symm
  have hj2 := Join_eq (L := L) (D := D) hm hL hD hs (rs := rt) (fun r hr => hfr r (by simp [hr])) (by omega)
  obtain ⟨x0, y0, cw, ch, h0, hc, hch, hx, hy⟩ := fits_rN (hfr r0 (by simp))
  have hcw : ch * cw ≤ w * h := by rw [Nat.mul_comm w h]; exact Nat.mul_le_mul (by omega) (by omega)
  have hcw1 : 1 * 1 ≤ ch * cw := Nat.mul_le_mul hch hc
  rw [if_neg (by
    rintro ⟨_, q2⟩
    have q1 := hwhole.2
    rw [List.map_cons, List.sum_cons, q2, h0, area_rN] at q1
    omega)] at hj2
  subst h0
  have hPL := cutL_len hL hc hx hy (n := ch * cw) (Nat.le_refl _)
  have hj3 := Join_bad hm hc hch hx hy (by omega) (PL := List.drop 1 (cutL L w x0 y0 cw (ch * cw))) (PD := cutD D w x0 y0 cw (ch * cw)) (by rw [List.length_drop]; omega) (rt.map (pc L D w))
  rw [List.map_cons, pc_rN] at hj hl0
  unfold lawTail
  dsimp only
  rw [hsd, tr_some ht]
  dsimp only
  rw [tr_some hl0, tr_yes (by rfl)]
  dsimp only
  rw [List.take_length, tr_some hj, tr_no (by simp)]
  dsimp only
  rw [tr_some (Floats_self L (by omega)), tr_no (by rfl), tr_some (Ints_self D (by omega)), tr_no (by rfl), tr_yes (by simp; omega)]
  rw [tr_some (r := ((0, 0, [], []), 2)) (by
    rw [← hj2]
    congr 3
    simp only [List.length_cons, Int.toNat_natCast, Nat.zero_add]
    exact List.take_of_length_le (by simp))]
  rw [tr_yes (by simp)]
  rw [tr_some (r := (rN x0 y0 cw ch, cutL L w x0 y0 cw (ch * cw), cutD D w x0 y0 cw (ch * cw))) (by rfl)]
  dsimp only
  rw [tr_yes (by simp only [Bool.and_eq_true, decide_eq_true_eq]; omega)]
  have hcutd : List.take (((cutL L w x0 y0 cw (ch * cw)).length : Int).toNat - Int.toNat 1) (List.drop (Int.toNat 1) (cutL L w x0 y0 cw (ch * cw))) = List.drop 1 (cutL L w x0 y0 cw (ch * cw)) := by
    rw [Int.toNat_natCast]
    exact List.take_of_length_le (by rw [List.length_drop]; exact Nat.le_refl _)
  rw [hcutd]
  rw [tr_yes (decide_eq_true (by rw [List.length_drop, hPL]; unfold most; omega)), tr_yes (by simp)]
  rw [tr_some (r := (rN x0 y0 cw ch, cutL L w x0 y0 cw (ch * cw), cutD D w x0 y0 cw (ch * cw))) (by rfl)]
  rw [tr_some (r := ((0, 0, [], []), 14)) (by
    rw [← hj3]
    congr 3
    have e1 : List.take (cutL L w x0 y0 cw (ch * cw)).length (List.drop 1 (cutL L w x0 y0 cw (ch * cw))) = List.drop 1 (cutL L w x0 y0 cw (ch * cw)) := List.take_of_length_le (by rw [List.length_drop]; omega)
    have e2 : List.take (List.length ((rN x0 y0 cw ch, cutL L w x0 y0 cw (ch * cw), cutD D w x0 y0 cw (ch * cw)) :: rt.map (pc L D w))) ((rN x0 y0 cw ch, List.drop 1 (cutL L w x0 y0 cw (ch * cw)), cutD D w x0 y0 cw (ch * cw)) :: rt.map (pc L D w)) = (rN x0 y0 cw ch, List.drop 1 (cutL L w x0 y0 cw (ch * cw)), cutD D w x0 y0 cw (ch * cw)) :: rt.map (pc L D w) := List.take_of_length_le (by simp)
    rw [← e2]
    simp
    exact List.take_of_length_le (by simp))]
  rfl
end

theorem rmay_eq (w h : Int) : (decide (w ≥ 1) && decide (h ≥ 1) && decide (w ≤ 8192) && decide (h ≤ 8192) && decide (W (w * h) ≤ 65536)) = decide (may w h) := by
  simp only [← Bool.decide_and]
  apply decide_eq_decide.2
  unfold may
  by_cases hh : 1 ≤ w ∧ 1 ≤ h ∧ w ≤ 8192 ∧ h ≤ 8192
  · rw [(w_mul hh.1 hh.2.1 hh.2.2.1 hh.2.2.2).1]; omega
  · constructor <;> intro h1 <;> omega

theorem fits_dec (w h : Int) (r : R4) : (decide (r.1 ≥ 0) && decide (r.2.1 ≥ 0) && decide (r.2.2.1 > r.1) && decide (r.2.2.2 > r.2.1) && decide (r.2.2.1 ≤ w) && decide (r.2.2.2 ≤ h)) = decide (fits w h r) := by
  rw [← Bool.decide_and, ← Bool.decide_and, ← Bool.decide_and, ← Bool.decide_and, ← Bool.decide_and]
  apply decide_eq_decide.2
  unfold fits
  omega

theorem TilesCuts_law (w h : Int) (L : List (Option Nat)) (D : List Int) (side : Int) (hside : 0 ≤ side) (r : R4) : (law38_TilesCuts.t ((w, h, L, D), side, r)).run = some true := by
  unfold law38_TilesCuts.t
  dsimp only
  by_cases hbig : (L.length : Int) > 300 ∨ (D.length : Int) > 100
  · rw [tr_yes (by simpa using hbig)]; rfl
  · rw [tr_no (by simpa using hbig)]
    by_cases hm : may w h
    · have hm' := hm
      unfold may at hm'
      obtain ⟨w, rfl⟩ : ∃ n : Nat, w = n := ⟨w.toNat, by omega⟩
      obtain ⟨h, rfl⟩ : ∃ n : Nat, h = n := ⟨h.toNat, by omega⟩
      have hwh : ((w : Int) * (h : Int)) = ((w * h : Nat) : Int) := by simp
      have e1 : W ((w : Int) * (h : Int)) = ((w * h : Nat) : Int) := by rw [hwh, W_nat (by omega)]
      have e2 : W (W (3 * (w : Int)) * (h : Int)) = ((3 * (w * h) : Nat) : Int) := by
        rw [W_id (n := 3 * (w : Int)) (by omega) (by omega), Int.mul_assoc, hwh, W_id (by omega) (by omega)]; omega
      have er := rmay_eq (w : Int) (h : Int)
      rw [decide_eq_true hm] at er
      by_cases hz : L.length = 3 * (w * h) ∧ D.length = w * h
      · obtain ⟨hL, hD⟩ := hz
        have hs : w * h ≤ 100 := by omega
        have hc0 : (!(decide ((w : Int) ≥ 1) && decide ((h : Int) ≥ 1) && decide ((w : Int) ≤ 8192) && decide ((h : Int) ≤ 8192) && decide (W ((w : Int) * (h : Int)) ≤ 65536)) || (L.length : Int) != W (W (3 * (w : Int)) * (h : Int)) || (D.length : Int) != W ((w : Int) * (h : Int))) = false := by
          rw [er, e1, e2, hL, hD]; simp
        have ef := fits_dec (w : Int) (h : Int) r
        by_cases hf : fits w h r
        · rw [decide_eq_true hf] at ef
          obtain ⟨x0, y0, cw, ch, rfl, hc, hch, hx, hy⟩ := fits_rN hf
          rw [tr_some (Cut_eq hm hL hD hs hc hx hy hch), tr_no hc0, tr_no (by rw [ef]; rfl)]
          have hcw1 : 1 * 1 ≤ ch * cw := Nat.mul_le_mul hch hc
          have hcwh : ch * cw ≤ w * h := by rw [Nat.mul_comm w h]; exact Nat.mul_le_mul (by omega) (by omega)
          have ew : W (W (((x0 + cw : Nat) : Int) - (x0 : Int)) * W (((y0 + ch : Nat) : Int) - (y0 : Int))) = ((ch * cw : Nat) : Int) := by
            rw [W_id (n := ((x0 + cw : Nat) : Int) - (x0 : Int)) (by omega) (by omega), W_id (n := ((y0 + ch : Nat) : Int) - (y0 : Int)) (by omega) (by omega), show ((x0 + cw : Nat) : Int) - (x0 : Int) = (cw : Int) by omega, show ((y0 + ch : Nat) : Int) - (y0 : Int) = (ch : Int) by omega, Int.mul_comm, show ((ch : Int) * (cw : Int)) = ((ch * cw : Nat) : Int) by simp, W_nat (by omega)]
          dsimp only
          rw [tr_no (by rw [ew, cutD_len]; simp)]
          have hk : y0 * w + x0 < w * h := row_lt (by omega) (by omega)
          have hck := cut_chunk hL hc hx hy (n := 0) (by omega)
          have hat : cellAt w x0 y0 cw 0 = y0 * w + x0 := by unfold cellAt; simp
          have hl := cutL_len hL hc hx hy (n := ch * cw) (Nat.le_refl _)
          have hg : (cutL L w x0 y0 cw (ch * cw))[0]? = some (L[3 * (y0 * w + x0)]) := by
            have := congrArg (fun l => l[0]?) hck
            simp only [Nat.mul_zero, Nat.sub_zero, List.drop_zero, List.take_length] at this
            rw [List.getElem?_take, if_pos (by omega)] at this
            rw [this, hat]
            unfold chunk
            rw [List.getElem?_take, if_pos (by omega), List.getElem?_drop, Nat.add_zero, List.getElem?_eq_getElem (by omega)]
          rw [tr_some (r := L[3 * (y0 * w + x0)]) (show lget (cutL L w x0 y0 cw (ch * cw)) 0 = _ from hg)]
          rw [tr_some (r := L[3 * (y0 * w + x0)]) (by rw [Wat (N := w * h) hs hk, W3 (by omega), lget_nat, List.getElem?_eq_getElem (by omega)])]
          rw [tr_no (by rw [ford_same]; rfl)]
          exact Law_tail hm hL hD hs hside (rN x0 y0 cw ch)
        · rw [decide_eq_false hf] at ef
          rw [tr_some (Cut_out hm hL hD hf), tr_no hc0, tr_yes (by rw [ef]; rfl), tr_no (by rfl)]
          exact Law_tail hm hL hD hs hside r
      · rw [tr_some (Cut_size hm hz), tr_yes ?_]
        · rfl
        · rw [e1, e2]
          simp only [Bool.or_eq_true, bne_iff_ne, ne_eq]
          omega
    · have er := rmay_eq w h
      rw [decide_eq_false hm] at er
      rw [tr_some (Cut_no hm), tr_yes (by rw [er]; rfl)]
      rfl

theorem TilesCuts_all (x : dens [TPic, .int .u8, TRect]) (h : insAll [TPic, .int .u8, TRect] x) : (law38_TilesCuts.t x).run = some true := by
  obtain ⟨_, h2, _⟩ := h
  exact TilesCuts_law x.1.1 x.1.2.1 x.1.2.2.1 x.1.2.2.2 x.2.1 h2.1 x.2.2
end Go.Proofs.Pen
