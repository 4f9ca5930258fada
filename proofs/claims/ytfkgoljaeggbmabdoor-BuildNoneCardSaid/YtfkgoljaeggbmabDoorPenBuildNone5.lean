/- A part of the proof that the law BuildNone is true of every input: models of the functions that the law reaches, and what holds of them. -/
import Derived.Test.YtfkgoljaeggbmabDoorRows
import Derived.KernelRfl
import Derived.WalkKit
import Derived.LaidEql
import Derived.Stop.Asserts
import Derived.RowKitTokens
import Derived.Test.YtfkgoljaeggbmabDoorChecked
import Derived.Test.YtfkgoljaeggbmabDoorPenKit0
import Derived.Test.YtfkgoljaeggbmabDoorPenKit1
import Derived.Test.YtfkgoljaeggbmabDoorPenKit2
import Derived.Test.YtfkgoljaeggbmabDoorPenBuildNone3
import Derived.Test.YtfkgoljaeggbmabDoorPenKit4
namespace Go.Proofs.Pen
open Go Go.Proofs Go.ChangeShapes Go.WideShapes Go.RowKit Go.Proofs.YtfkgoljaeggbmabDoor

/-- What this program's one laid variable reads as. -/
def doorL : List (String × DataW Unit) := [("errors.errorType", .iface "internal/reflectlite.rtype" (.agg [.ptr (.lit (.string [101, 114, 114, 111, 114]))]))]

theorem door_glob : ∀ W, laidMetH Tryd.prog doorL W → ∀ a u, globOf Tryd.prog a = some u → W.cell? a = some u := fun _ h =>
  glob_laid (n := 215) (g := 0) (rt := 165) (ty := 25) (by kernel_rfl) (by kernel_rfl) (by kernel_rfl) (by kernel_rfl) h

theorem door_globOf : globOf Tryd.prog ⟨0, 0, none⟩ = some (.iface 165 (.agg #[.pointer (some ⟨1, 25, none⟩)])) := by kernel_rfl

/-- A world in which it is laid. -/
noncomputable def doorWorld (os : Os) : World :=
  let w0 := World.holding Tryd.prog os ⟨#[], #[], []⟩
  { w0 with heap := w0.heap.modify 0 fun
      | .cells _ t frozen => .cells #[.iface 165 (.agg #[.pointer (some ⟨1, 25, none⟩)])] t frozen
      | o => o }
theorem doorWorld_met (os : Os) (args : Array Value) : laidMetH Tryd.prog doorL ((doorWorld os).forCall (fun _ _ => 0) ⟨#[], args, []⟩).memory :=
  laidMetH_of_parts (laidMet_nil _ _) (by kernel_rfl)

theorem faultPlain_witness (os : Os) (H : Type) (enc : TypeId × Value → H) : ∃ (w : World) (tape : Tape) (i : Input), w.os = os ∧ (w.forCall tape i).Shaped Tryd.prog ∧ i.vars = [] ∧ Input.okWide Tryd.prog (w.forCall tape i) .any w.heap.size 5 i ∧
      ((Rows.faultPlainSpec.pre enc Tryd.prog Tryd.f5 Rows.faultPlainRow.domain false (w.forCall tape i).memory i.args ∧ laidMetH Tryd.prog doorL (w.forCall tape i).memory) ∧ sizedMet enc Tryd.prog Tryd.f5 (OpenSpec.ofChange Rows.faultPlainSpec) false (w.forCall tape i).memory i.args) ∧ ({} : Assume).holds Tryd.prog (lone (Frame.enter Tryd.prog 5 i.args .normal) [] (w.forCall tape i)) :=
  ChangeSpec.witness_at (enc := enc) (C := Tryd.checked) (os := os) (X := fun w _ => laidMetH Tryd.prog doorL w) false (doorWorld os) #[.int .i64 0, .int .i64 0, .int .i64 0] 8 rfl (by kernel_rfl) (by kernel_rfl) (by kernel_rfl) (by kernel_rfl) (by kernel_rfl) (doorWorld_met os _)
end Go.Proofs.Pen

namespace Go.Proofs.Pen.As
open Go Go.Proofs Go.RowKit Go.Extern.Stop Go.Stop Go.Extern Go.Proofs.YtfkgoljaeggbmabDoor

/-! errors.As at the targets *Fault (82) and *Errno (83), by its contracts (after the worked ToyasAs): 43: Fault, 23: Errno, 25: error, 165: reflectlite's rtype. -/
theorem as_nil (t : Value) (w : World) : Calls Tryd.prog 35 #[.nilIface, t] w fun e w' => e = .returned (.bool false) ∧ w' = w := by
  go_enter Tryd.func35, Tryd.ntmps35
  go_wp2
  go_ret
  exact ⟨rfl, rfl⟩

abbrev vl (T : Nat) (a : Addr) (f : Int) : Value := .agg #[.pointer (some ⟨1, T, none⟩), .pointer (some a), .int .u64 f]
abbrev ty (T : Nat) : Value := .iface 165 (.agg #[.pointer (some ⟨1, T, none⟩)])

theorem valueOf82 (t : Addr) (w : World) : (ReflectliteValue.unpack (.iface 82 (.pointer (some t)))).run Tryd.prog w
    = .ok (vl 82 ⟨w.heap.size, 0, none⟩ 150) (w.alloc (.cells #[.pointer (some t)] 82)) := by kernel_rfl
theorem valueOf83 (t : Addr) (w : World) : (ReflectliteValue.unpack (.iface 83 (.pointer (some t)))).run Tryd.prog w
    = .ok (vl 83 ⟨w.heap.size, 0, none⟩ 150) (w.alloc (.cells #[.pointer (some t)] 83)) := by kernel_rfl
theorem type82 (a : Addr) (w : World) : (ReflectliteValue.methodAny (ReflectliteValue.valueError "reflectlite.Value.Type" 0) (fun t _ _ _ => ReflectliteType.toType t) #[vl 82 a 150]).run Tryd.prog w = .ok (ty 82) w := by kernel_rfl
theorem type83 (a : Addr) (w : World) : (ReflectliteValue.methodAny (ReflectliteValue.valueError "reflectlite.Value.Type" 0) (fun t _ _ _ => ReflectliteType.toType t) #[vl 83 a 150]).run Tryd.prog w = .ok (ty 83) w := by kernel_rfl
theorem methodKind (h : Value) (w : World) : (Go.method 315 165 (.agg #[h]) "Kind").run Tryd.prog w = .ok (127, h) w := by kernel_rfl
theorem methodElem (h : Value) (w : World) : (Go.method 315 165 (.agg #[h]) "Elem").run Tryd.prog w = .ok (136, .agg #[h]) w := by kernel_rfl
theorem methodImplements (h : Value) (w : World) : (Go.method 315 165 (.agg #[h]) "Implements").run Tryd.prog w = .ok (137, .agg #[h]) w := by kernel_rfl
theorem methodAssignableTo (h : Value) (w : World) : (Go.method 315 165 (.agg #[h]) "AssignableTo").run Tryd.prog w = .ok (134, .agg #[h]) w := by kernel_rfl
theorem kind82 (w : World) : ((ReflectliteType.abiMethod fun t => (fun a : Nat => Value.int IntKind.u8 (a : Int)) <$> Rtype.kind t) #[.pointer (some ⟨1, 82, none⟩)]).run Tryd.prog w = .ok (.int .u8 22) w := by kernel_rfl
theorem kind83 (w : World) : ((ReflectliteType.abiMethod fun t => (fun a : Nat => Value.int IntKind.u8 (a : Int)) <$> Rtype.kind t) #[.pointer (some ⟨1, 83, none⟩)]).run Tryd.prog w = .ok (.int .u8 22) w := by kernel_rfl
theorem kind43 (w : World) : ((ReflectliteType.abiMethod fun t => (fun a : Nat => Value.int IntKind.u8 (a : Int)) <$> Rtype.kind t) #[.pointer (some ⟨1, 43, none⟩)]).run Tryd.prog w = .ok (.int .u8 25) w := by kernel_rfl
theorem kind23 (w : World) : ((ReflectliteType.abiMethod fun t => (fun a : Nat => Value.int IntKind.u8 (a : Int)) <$> Rtype.kind t) #[.pointer (some ⟨1, 23, none⟩)]).run Tryd.prog w = .ok (.int .u8 2) w := by kernel_rfl
theorem elem82 (w : World) : (ReflectliteType.method ReflectliteType.elem #[.agg #[.pointer (some ⟨1, 82, none⟩)]]).run Tryd.prog w = .ok (ty 43) w := by kernel_rfl
theorem elem83 (w : World) : (ReflectliteType.method ReflectliteType.elem #[.agg #[.pointer (some ⟨1, 83, none⟩)]]).run Tryd.prog w = .ok (ty 23) w := by kernel_rfl
theorem implements43 (w : World) : (ReflectliteType.relation "Implements" ReflectliteType.implements_ #[.agg #[.pointer (some ⟨1, 43, none⟩)], ty 25]).run Tryd.prog w = .ok (.bool true) w := by kernel_rfl
theorem implements23 (w : World) : (ReflectliteType.relation "Implements" ReflectliteType.implements_ #[.agg #[.pointer (some ⟨1, 23, none⟩)], ty 25]).run Tryd.prog w = .ok (.bool true) w := by kernel_rfl
theorem typeOf43 (v : Value) (w : World) : (ReflectliteType.typeOf #[.iface 43 v]).run Tryd.prog w = .ok (ty 43) w := by kernel_rfl
theorem typeOf23 (v : Value) (w : World) : (ReflectliteType.typeOf #[.iface 23 v]).run Tryd.prog w = .ok (ty 23) w := by kernel_rfl
theorem assignable43 (w : World) : (ReflectliteType.relation "AssignableTo" ReflectliteType.assignableTo #[.agg #[.pointer (some ⟨1, 43, none⟩)], ty 43]).run Tryd.prog w = .ok (.bool true) w := by kernel_rfl
theorem assignable23 (w : World) : (ReflectliteType.relation "AssignableTo" ReflectliteType.assignableTo #[.agg #[.pointer (some ⟨1, 23, none⟩)], ty 23]).run Tryd.prog w = .ok (.bool true) w := by kernel_rfl
theorem assignable23_43 (w : World) : (ReflectliteType.relation "AssignableTo" ReflectliteType.assignableTo #[.agg #[.pointer (some ⟨1, 23, none⟩)], ty 43]).run Tryd.prog w = .ok (.bool false) w := by kernel_rfl
theorem valueOf23 (n : Int) (w : World) : (ReflectliteValue.unpack (.iface 23 (.int .i64 n))).run Tryd.prog w
    = .ok (vl 23 ⟨w.heap.size, 0, none⟩ 130) (w.alloc (.cells #[.int .i64 n] 23)) := by kernel_rfl
theorem valueOf43 (c l e : Value) (w : World) : (ReflectliteValue.unpack (.iface 43 (.agg #[c, l, e]))).run Tryd.prog w
    = .ok (vl 43 ⟨w.heap.size, 0, none⟩ 153) (w.alloc (.cells #[c, l, e] 43)) := by kernel_rfl
end Go.Proofs.Pen.As

namespace Go.Proofs.Pen.As
open Go Go.Proofs Go.RowKit Go.Extern.Stop Go.Stop Go.Extern Go.Proofs.YtfkgoljaeggbmabDoor

/-! The entries that read or write memory. -/
theorem rlm (z : Sem Value) (f : TypeId → Addr → Nat → Nat → Sem Value) (v : Value) :
    ReflectliteValue.method z f #[v] = (do match ← ReflectliteValue.parts v with | none => z | some (t, a, fl) => f t a fl (fl % 32)) := rfl
theorem parts82 (a : Addr) (w : World) : (ReflectliteValue.parts (vl 82 a 150)).run Tryd.prog w = .ok (some (82, a, 150)) w := by kernel_rfl
theorem parts83 (a : Addr) (w : World) : (ReflectliteValue.parts (vl 83 a 150)).run Tryd.prog w = .ok (some (83, a, 150)) w := by kernel_rfl
theorem under82 : Tryd.prog.underlying 82 = some (.pointer 43) := by kernel_rfl
theorem under83 : Tryd.prog.underlying 83 = some (.pointer 23) := by kernel_rfl
theorem isNil82 (a p : Addr) (W : World) (ha : W.cell? a = some (.pointer (some p))) :
    (ReflectliteValue.method (ReflectliteValue.valueError "reflectlite.Value.IsNil" 0) ReflectliteValue.isNil #[vl 82 a 150]).run Tryd.prog W = .ok (.bool false) W := by
  rw [rlm]
  simp only [Sem.run_bind, parts82, Result.andThen]
  simp [ReflectliteValue.isNil, loadVar, isAgg, underlying, under82, ha, Result.andThen]
theorem isNil83 (a p : Addr) (W : World) (ha : W.cell? a = some (.pointer (some p))) :
    (ReflectliteValue.method (ReflectliteValue.valueError "reflectlite.Value.IsNil" 0) ReflectliteValue.isNil #[vl 83 a 150]).run Tryd.prog W = .ok (.bool false) W := by
  rw [rlm]
  simp only [Sem.run_bind, parts83, Result.andThen]
  simp [ReflectliteValue.isNil, loadVar, isAgg, underlying, under83, ha, Result.andThen]
theorem elemOf82 (w : World) : (Rtype.elem? 82).run Tryd.prog w = .ok (some 43) w := by kernel_rfl
theorem elemOf83 (w : World) : (Rtype.elem? 83).run Tryd.prog w = .ok (some 23) w := by kernel_rfl
theorem mk43 (p : Addr) (w : World) : (ReflectliteValue.mk 43 p ReflectliteValue.flagAddr).run Tryd.prog w = .ok (vl 43 p 409) w := by kernel_rfl
theorem mk23 (p : Addr) (w : World) : (ReflectliteValue.mk 23 p ReflectliteValue.flagAddr).run Tryd.prog w = .ok (vl 23 p 386) w := by kernel_rfl
theorem elemV82 (a p : Addr) (W : World) (ha : W.cell? a = some (.pointer (some p))) :
    (ReflectliteValue.method (ReflectliteValue.valueError "reflectlite.Value.Elem" 0) ReflectliteValue.elem #[vl 82 a 150]).run Tryd.prog W = .ok (vl 43 p 409) W := by
  rw [rlm]
  simp only [Sem.run_bind, parts82, Result.andThen]
  simp [ReflectliteValue.elem, loadVar, isAgg, underlying, under82, ha, Result.andThen, elemOf82, mk43]
theorem elemV83 (a p : Addr) (W : World) (ha : W.cell? a = some (.pointer (some p))) :
    (ReflectliteValue.method (ReflectliteValue.valueError "reflectlite.Value.Elem" 0) ReflectliteValue.elem #[vl 83 a 150]).run Tryd.prog W = .ok (vl 23 p 386) W := by
  rw [rlm]
  simp only [Sem.run_bind, parts83, Result.andThen]
  simp [ReflectliteValue.elem, loadVar, isAgg, underlying, under83, ha, Result.andThen, elemOf83, mk23]
theorem rls (v x : Value) : ReflectliteValue.set #[v, x] = (do
    let (some (dst, a, fl), some (src, b, _)) := (← ReflectliteValue.parts v, ← ReflectliteValue.parts x)
      | unsupported (.noEntry "extern/(internal/reflectlite.Value).Set.zeroValue")
    if fl / ReflectliteValue.flagAddr % 2 == 0 then unsupported (.noEntry "extern/(internal/reflectlite.Value).Set.unaddressable")
    let val ← loadVar src b
    if ← Rtype.directlyAssignable dst src then storeVar dst a val
    else if ← Rtype.implements dst src then
      if (← Rtype.kind src) == 20 then
        match val with
        | .nilIface => unsupported (.noEntry "extern/reflectlite: a nil value of one interface type handed on as a value of another")
        | _ => storeVar dst a val
      else storeVar dst a (.iface src val)
    else panicString ("reflectlite.Set: value of type " ++ (← Rtype.spelt src) ++ " is not assignable to type " ++ (← Rtype.spelt dst))
    pure (.tuple #[])) := rfl
theorem parts23a (a : Addr) (w : World) : (ReflectliteValue.parts (vl 23 a 386)).run Tryd.prog w = .ok (some (23, a, 386)) w := by kernel_rfl
theorem parts23 (a : Addr) (w : World) : (ReflectliteValue.parts (vl 23 a 130)).run Tryd.prog w = .ok (some (23, a, 130)) w := by kernel_rfl
theorem parts43a (a : Addr) (w : World) : (ReflectliteValue.parts (vl 43 a 409)).run Tryd.prog w = .ok (some (43, a, 409)) w := by kernel_rfl
theorem parts43 (a : Addr) (w : World) : (ReflectliteValue.parts (vl 43 a 153)).run Tryd.prog w = .ok (some (43, a, 153)) w := by kernel_rfl
theorem direct23 (w : World) : (Rtype.directlyAssignable 23 23).run Tryd.prog w = .ok true w := by kernel_rfl
theorem direct43 (w : World) : (Rtype.directlyAssignable 43 43).run Tryd.prog w = .ok true w := by kernel_rfl
theorem size23 (w : World) : (sizeOf 23).run Tryd.prog w = .ok 1 w := by kernel_rfl
theorem size43 (w : World) : (sizeOf 43).run Tryd.prog w = .ok 3 w := by kernel_rfl
theorem under23 : Tryd.prog.underlying 23 = some (.int .i64) := by kernel_rfl
/-- Set at an *Errno's variable. -/
theorem set23 (ta b : Addr) (n : Int) (old : Value) (W : World) (hb : W.cell? b = some (.int .i64 n)) (ht : W.cell? ta = some old) (hf : W.frozen? ta = false) :
    (ReflectliteValue.set #[vl 23 ta 386, vl 23 b 130]).run Tryd.prog W = .ok (.tuple #[]) (W.setCell ta (.int .i64 n)) := by
  rw [rls]
  simp only [Sem.run_bind, parts23a, parts23, Result.andThen]
  simp [ReflectliteValue.flagAddr, loadVar, isAgg, underlying, under23, hb, Result.andThen, direct23, storeVar, Value.cells, storeCells, Addr.add]
  rw [run_store Tryd.prog W ta _ _ (by rfl)]
  simp [ht, hf]
end Go.Proofs.Pen.As

namespace Go.Proofs.Pen.As
open Go Go.Proofs Go.RowKit Go.Extern.Stop Go.Stop Go.Extern Go.Proofs.YtfkgoljaeggbmabDoor

theorem isAgg43 (w : World) : (isAgg 43).run Tryd.prog w = .ok true w := by kernel_rfl

/-- A Fault, read out of the Value that holds it. -/
theorem load43 (b : Addr) (c l : Int) (e : Value) (W : World) (hb : CellsIn W b [.int .i64 c, .int .i64 l, e]) : (loadVar 43 b).run Tryd.prog W = .ok (.agg #[.int .i64 c, .int .i64 l, e]) W := by
  have := run_loadCells (P := Tryd.prog) hb
  unfold loadVar
  simp only [Sem.run_bind, isAgg43, Result.andThen, if_pos, size43]
  rw [show ([.int .i64 c, .int .i64 l, e] : List Value).length = 3 from rfl] at this
  rw [this]
  rfl
/-- Set at a Fault's variable: a block of three cells. -/
theorem set43 (B : Nat) (b : Addr) (c l : Int) (e o0 o1 o2 : Value) (W : World) (he : e.oneCell' = true) (hb : CellsIn W b [.int .i64 c, .int .i64 l, e]) (ht : W.heap[B]? = some (.cells #[o0, o1, o2] 43 (0, 0))) :
    (ReflectliteValue.set #[vl 43 ⟨B, 0, none⟩ 409, vl 43 b 153]).run Tryd.prog W = .ok (.tuple #[]) (setBlk W B (.cells #[.int .i64 c, .int .i64 l, e] 43 (0, 0))) := by
  rw [rls]
  have hs := run_storeCells (P := Tryd.prog) [.int .i64 c, .int .i64 l, e] 0 0 [o0, o1, o2] W ht (by simp) (.inl rfl) (by
    intro u hu
    simp only [List.mem_cons, List.not_mem_nil, or_false] at hu
    rcases hu with rfl | rfl | rfl
    · rfl
    · rfl
    · exact he)
  have hl := load43 b c l e W hb
  have hst : (storeVar 43 ⟨B, 0, none⟩ (.agg #[.int .i64 c, .int .i64 l, e])).run Tryd.prog W = .ok () (setBlk W B (.cells #[.int .i64 c, .int .i64 l, e] 43 (0, 0))) := by
    unfold storeVar
    simp only [Sem.run_bind, size43, Result.andThen]
    exact hs
  simp only [Sem.run_bind, parts43a, parts43, Result.andThen]
  simp [ReflectliteValue.flagAddr, hl, hst, direct43, Result.andThen]
end Go.Proofs.Pen.As

namespace Go.Proofs.Pen.As
open Go Go.Proofs Go.RowKit Go.Extern.Stop Go.Stop Go.Extern Go.Proofs.YtfkgoljaeggbmabDoor

abbrev hnd : Value := .iface 165 (.agg #[.pointer (some ⟨1, 25, none⟩)])

set_option maxHeartbeats 4000000 in
theorem as_hit23 (n : Int) (t : Addr) (old : Value) (w : World) (hg : w.cell? ⟨0, 0, none⟩ = some (.iface 165 (.agg #[.pointer (some ⟨1, 25, none⟩)]))) (ht0 : w.cell? t = some old) (hf0 : w.frozen? t = false) :
    Calls Tryd.prog 35 #[.iface 23 (.int .i64 n), .iface 83 (.pointer (some t))] w fun ev w' => ev = .returned (.bool true) ∧ w' = ((((w.alloc (.cells #[.pointer (some t)] 83)).alloc (.cells #[.pointer (some ⟨1, 83, none⟩), .pointer (some ⟨w.heap.size, 0, none⟩), .int .u64 150] 124)).alloc (.cells #[.pointer (some ⟨1, 83, none⟩), .pointer (some ⟨w.heap.size, 0, none⟩), .int .u64 150] 124)).alloc (.cells #[.int .i64 n] 23)).setCell t (.int .i64 n) := by
  have h67 := @run_callFunc_extern Tryd.prog 67 _ (fun args => ReflectliteValue.unpack (args.getD 0 (.tuple #[]))) Tryd.func67 (by kernel_rfl) (by kernel_rfl) (by kernel_rfl) (by kernel_rfl)
  have h68 := @run_callFunc_extern Tryd.prog 68 _ (ReflectliteValue.methodAny (ReflectliteValue.valueError "reflectlite.Value.Type" 0) (fun t _ _ _ => ReflectliteType.toType t)) Tryd.func68 (by kernel_rfl) (by kernel_rfl) (by kernel_rfl) (by kernel_rfl)
  have h69 := @run_callFunc_extern Tryd.prog 69 _ (ReflectliteValue.method (ReflectliteValue.valueError "reflectlite.Value.IsNil" 0) ReflectliteValue.isNil) Tryd.func69 (by kernel_rfl) (by kernel_rfl) (by kernel_rfl) (by kernel_rfl)
  have h127 := @run_callFunc_extern Tryd.prog 127 _ (ReflectliteType.abiMethod fun t => do pure (.int .u8 (← Rtype.kind t))) Tryd.func127 (by kernel_rfl) (by kernel_rfl) (by kernel_rfl) (by kernel_rfl)
  have h136 := @run_callFunc_extern Tryd.prog 136 _ (ReflectliteType.method ReflectliteType.elem) Tryd.func136 (by kernel_rfl) (by kernel_rfl) (by kernel_rfl) (by kernel_rfl)
  have h137 := @run_callFunc_extern Tryd.prog 137 _ (ReflectliteType.relation "Implements" ReflectliteType.implements_) Tryd.func137 (by kernel_rfl) (by kernel_rfl) (by kernel_rfl) (by kernel_rfl)
  have h72 := @run_callFunc_extern Tryd.prog 72 _ ReflectliteType.typeOf Tryd.func72 (by kernel_rfl) (by kernel_rfl) (by kernel_rfl) (by kernel_rfl)
  have h134 := @run_callFunc_extern Tryd.prog 134 _ (ReflectliteType.relation "AssignableTo" ReflectliteType.assignableTo) Tryd.func134 (by kernel_rfl) (by kernel_rfl) (by kernel_rfl) (by kernel_rfl)
  have h99 := @run_callFunc_extern Tryd.prog 99 _ (ReflectliteValue.method (ReflectliteValue.valueError "reflectlite.Value.Elem" 0) ReflectliteValue.elem) Tryd.func99 (by kernel_rfl) (by kernel_rfl) (by kernel_rfl) (by kernel_rfl)
  have h100 := @run_callFunc_extern Tryd.prog 100 _ ReflectliteValue.set Tryd.func100 (by kernel_rfl) (by kernel_rfl) (by kernel_rfl) (by kernel_rfl)
  have tO := typeOf23
  have mA := methodAssignableTo
  have a23 := assignable23
  have v23 := valueOf23
  have f6 := valueOf83
  have f7 := type83
  have mK := methodKind
  have mE := methodElem
  have mI := methodImplements
  have k83 := kind83
  have k23 := kind23
  have e83 := elem83
  have i23 := implements23
  have n8 := isNil83 ⟨w.heap.size, 0, none⟩ t ((w.alloc (.cells #[.pointer (some t)] 83)).alloc (.cells #[.pointer (some ⟨1, 83, none⟩), .pointer (some ⟨w.heap.size, 0, none⟩), .int .u64 150] 124)) (by simp)
  have hlt : 0 < w.heap.size := by
    rcases Nat.eq_zero_or_pos w.heap.size with h0 | h
    · simp [World.cell?, h0] at hg
    · exact h
  have hg2 : ((w.alloc (.cells #[.pointer (some t)] 83)).alloc (.cells #[.pointer (some ⟨1, 83, none⟩), .pointer (some ⟨w.heap.size, 0, none⟩), .int .u64 150] 124)).cell? ⟨0, 0, none⟩ = some (.iface 165 (.agg #[.pointer (some ⟨1, 25, none⟩)])) := by
    rw [World.cell?_alloc_lt _ _ ⟨0, 0, none⟩ (by simp), World.cell?_alloc_lt _ _ ⟨0, 0, none⟩ hlt]; exact hg
  have htl : t.block < w.heap.size := by
    rcases Nat.lt_or_ge t.block w.heap.size with h | h
    · exact h
    · simp [World.cell?, Array.getElem?_eq_none h] at ht0
  have el := elemV83 ⟨w.heap.size, 0, none⟩ t (((w.alloc (.cells #[.pointer (some t)] 83)).alloc (.cells #[.pointer (some ⟨1, 83, none⟩), .pointer (some ⟨w.heap.size, 0, none⟩), .int .u64 150] 124)).alloc (.cells #[.pointer (some ⟨1, 83, none⟩), .pointer (some ⟨w.heap.size, 0, none⟩), .int .u64 150] 124)) (by rw [World.cell?_alloc_lt _ _ ⟨w.heap.size, 0, none⟩ (by simp; omega)]; simp)
  have st := set23 t ⟨w.heap.size + 1 + 1 + 1, 0, none⟩ n old ((((w.alloc (.cells #[.pointer (some t)] 83)).alloc (.cells #[.pointer (some ⟨1, 83, none⟩), .pointer (some ⟨w.heap.size, 0, none⟩), .int .u64 150] 124)).alloc (.cells #[.pointer (some ⟨1, 83, none⟩), .pointer (some ⟨w.heap.size, 0, none⟩), .int .u64 150] 124)).alloc (.cells #[.int .i64 n] 23))
    (by rw [World.cell?_alloc_at _ _ _ _ (by simp)]; rfl)
    (by rw [World.cell?_alloc_lt _ _ t (by simp; omega), World.cell?_alloc_lt _ _ t (by simp; omega), World.cell?_alloc_lt _ _ t (by simp; omega), World.cell?_alloc_lt _ _ t htl]; exact ht0)
    (by rw [World.frozen?_alloc_old _ _ t (by simp; omega), World.frozen?_alloc_old _ _ t (by simp; omega), World.frozen?_alloc_old _ _ t (by simp; omega), World.frozen?_alloc_old _ _ t (Nat.ne_of_lt htl)]; exact hf0)
  go_enter Tryd.func35, Tryd.ntmps35
  go_wp2
  refine wp_loop_rounds 1 ?_
  rw [rounds_succ]
  go_wp2
  go_ret
  exact ⟨rfl, rfl⟩
end Go.Proofs.Pen.As

namespace Go.Proofs.Pen.As
open Go Go.Proofs Go.RowKit Go.Extern.Stop Go.Stop Go.Extern Go.Proofs.YtfkgoljaeggbmabDoor

set_option maxHeartbeats 4000000 in
theorem as_hit43 (c l : Int) (e : Value) (B : Nat) (o0 o1 o2 : Value) (w : World) (he : e.oneCell' = true) (hg : w.cell? ⟨0, 0, none⟩ = some (.iface 165 (.agg #[.pointer (some ⟨1, 25, none⟩)]))) (ht0 : w.heap[B]? = some (.cells #[o0, o1, o2] 43 (0, 0))) :
    Calls Tryd.prog 35 #[.iface 43 (.agg #[.int .i64 c, .int .i64 l, e]), .iface 82 (.pointer (some ⟨B, 0, none⟩))] w fun ev w' => ev = .returned (.bool true) ∧ w' = setBlk ((((w.alloc (.cells #[.pointer (some ⟨B, 0, none⟩)] 82)).alloc (.cells #[.pointer (some ⟨1, 82, none⟩), .pointer (some ⟨w.heap.size, 0, none⟩), .int .u64 150] 124)).alloc (.cells #[.pointer (some ⟨1, 82, none⟩), .pointer (some ⟨w.heap.size, 0, none⟩), .int .u64 150] 124)).alloc (.cells #[.int .i64 c, .int .i64 l, e] 43)) B (.cells #[.int .i64 c, .int .i64 l, e] 43 (0, 0)) := by
  have h67 := @run_callFunc_extern Tryd.prog 67 _ (fun args => ReflectliteValue.unpack (args.getD 0 (.tuple #[]))) Tryd.func67 (by kernel_rfl) (by kernel_rfl) (by kernel_rfl) (by kernel_rfl)
  have h68 := @run_callFunc_extern Tryd.prog 68 _ (ReflectliteValue.methodAny (ReflectliteValue.valueError "reflectlite.Value.Type" 0) (fun t _ _ _ => ReflectliteType.toType t)) Tryd.func68 (by kernel_rfl) (by kernel_rfl) (by kernel_rfl) (by kernel_rfl)
  have h69 := @run_callFunc_extern Tryd.prog 69 _ (ReflectliteValue.method (ReflectliteValue.valueError "reflectlite.Value.IsNil" 0) ReflectliteValue.isNil) Tryd.func69 (by kernel_rfl) (by kernel_rfl) (by kernel_rfl) (by kernel_rfl)
  have h127 := @run_callFunc_extern Tryd.prog 127 _ (ReflectliteType.abiMethod fun t => do pure (.int .u8 (← Rtype.kind t))) Tryd.func127 (by kernel_rfl) (by kernel_rfl) (by kernel_rfl) (by kernel_rfl)
  have h136 := @run_callFunc_extern Tryd.prog 136 _ (ReflectliteType.method ReflectliteType.elem) Tryd.func136 (by kernel_rfl) (by kernel_rfl) (by kernel_rfl) (by kernel_rfl)
  have h137 := @run_callFunc_extern Tryd.prog 137 _ (ReflectliteType.relation "Implements" ReflectliteType.implements_) Tryd.func137 (by kernel_rfl) (by kernel_rfl) (by kernel_rfl) (by kernel_rfl)
  have h72 := @run_callFunc_extern Tryd.prog 72 _ ReflectliteType.typeOf Tryd.func72 (by kernel_rfl) (by kernel_rfl) (by kernel_rfl) (by kernel_rfl)
  have h134 := @run_callFunc_extern Tryd.prog 134 _ (ReflectliteType.relation "AssignableTo" ReflectliteType.assignableTo) Tryd.func134 (by kernel_rfl) (by kernel_rfl) (by kernel_rfl) (by kernel_rfl)
  have h99 := @run_callFunc_extern Tryd.prog 99 _ (ReflectliteValue.method (ReflectliteValue.valueError "reflectlite.Value.Elem" 0) ReflectliteValue.elem) Tryd.func99 (by kernel_rfl) (by kernel_rfl) (by kernel_rfl) (by kernel_rfl)
  have h100 := @run_callFunc_extern Tryd.prog 100 _ ReflectliteValue.set Tryd.func100 (by kernel_rfl) (by kernel_rfl) (by kernel_rfl) (by kernel_rfl)
  have tO := typeOf43
  have mA := methodAssignableTo
  have a43 := assignable43
  have v43 := valueOf43
  have f6 := valueOf82
  have f7 := type82
  have mK := methodKind
  have mE := methodElem
  have mI := methodImplements
  have k82 := kind82
  have k43 := kind43
  have e82 := elem82
  have i43 := implements43
  have n8 := isNil82 ⟨w.heap.size, 0, none⟩ ⟨B, 0, none⟩ ((w.alloc (.cells #[.pointer (some ⟨B, 0, none⟩)] 82)).alloc (.cells #[.pointer (some ⟨1, 82, none⟩), .pointer (some ⟨w.heap.size, 0, none⟩), .int .u64 150] 124)) (by simp)
  have hlt : 0 < w.heap.size := by
    rcases Nat.eq_zero_or_pos w.heap.size with h0 | h
    · simp [World.cell?, h0] at hg
    · exact h
  have hg2 : ((w.alloc (.cells #[.pointer (some ⟨B, 0, none⟩)] 82)).alloc (.cells #[.pointer (some ⟨1, 82, none⟩), .pointer (some ⟨w.heap.size, 0, none⟩), .int .u64 150] 124)).cell? ⟨0, 0, none⟩ = some (.iface 165 (.agg #[.pointer (some ⟨1, 25, none⟩)])) := by
    rw [World.cell?_alloc_lt _ _ ⟨0, 0, none⟩ (by simp), World.cell?_alloc_lt _ _ ⟨0, 0, none⟩ hlt]; exact hg
  have htl : B < w.heap.size := (Array.getElem?_eq_some_iff.1 ht0).1
  have up : ∀ (v : World) (o : Obj), B < v.heap.size → (v.alloc o).heap[B]? = v.heap[B]? := fun v o h => by
    show (v.heap.push o)[B]? = _
    rw [Array.getElem?_push, if_neg (by omega)]
  have el := elemV82 ⟨w.heap.size, 0, none⟩ ⟨B, 0, none⟩ (((w.alloc (.cells #[.pointer (some ⟨B, 0, none⟩)] 82)).alloc (.cells #[.pointer (some ⟨1, 82, none⟩), .pointer (some ⟨w.heap.size, 0, none⟩), .int .u64 150] 124)).alloc (.cells #[.pointer (some ⟨1, 82, none⟩), .pointer (some ⟨w.heap.size, 0, none⟩), .int .u64 150] 124)) (by rw [World.cell?_alloc_lt _ _ ⟨w.heap.size, 0, none⟩ (by simp; omega)]; simp)
  have st := set43 B ⟨w.heap.size + 1 + 1 + 1, 0, none⟩ c l e o0 o1 o2 (((((w.alloc (.cells #[.pointer (some ⟨B, 0, none⟩)] 82)).alloc (.cells #[.pointer (some ⟨1, 82, none⟩), .pointer (some ⟨w.heap.size, 0, none⟩), .int .u64 150] 124)).alloc (.cells #[.pointer (some ⟨1, 82, none⟩), .pointer (some ⟨w.heap.size, 0, none⟩), .int .u64 150] 124)).alloc (.cells #[.int .i64 c, .int .i64 l, e] 43))) he
    (by
      intro j u hj
      show World.cell? _ (Addr.add ⟨w.heap.size + 1 + 1 + 1, 0, none⟩ j) = some u
      rw [add_none, Nat.zero_add, World.cell?_alloc_at _ _ _ _ (by simp)]
      simpa using hj)
    (by rw [up _ _ (by simp; omega), up _ _ (by simp; omega), up _ _ (by simp; omega), up _ _ htl]; exact ht0)
  go_enter Tryd.func35, Tryd.ntmps35
  go_wp2
  refine wp_loop_rounds 1 ?_
  rw [rounds_succ]
  go_wp2
  go_ret
  exact ⟨rfl, rfl⟩
end Go.Proofs.Pen.As

namespace Go.Proofs.Pen.As
open Go Go.Proofs Go.RowKit Go.Extern.Stop Go.Stop Go.Extern Go.Proofs.YtfkgoljaeggbmabDoor

theorem noAs (v : Value) (xT : TypeId) (w : World) : (Instr.typeAssert (.iface 23 v) xT 169 true).run Tryd.prog w = .ok (.tuple #[.nilIface, .bool false]) w := run_typeAssert_lacksB Tryd.underlying169 (by kernel_rfl) (by kernel_rfl) v xT w
theorem noUnwrap (v : Value) (xT : TypeId) (w : World) : (Instr.typeAssert (.iface 23 v) xT 172 true).run Tryd.prog w = .ok (.tuple #[.nilIface, .bool false]) w := run_typeAssert_lacksB Tryd.underlying172 (by kernel_rfl) (by kernel_rfl) v xT w
theorem noUnwraps (v : Value) (xT : TypeId) (w : World) : (Instr.typeAssert (.iface 23 v) xT 173 true).run Tryd.prog w = .ok (.tuple #[.nilIface, .bool false]) w := run_typeAssert_lacksB Tryd.underlying173 (by kernel_rfl) (by kernel_rfl) v xT w

set_option maxHeartbeats 4000000 in
theorem as_miss (n : Int) (t : Addr) (w : World) (hg : w.cell? ⟨0, 0, none⟩ = some (.iface 165 (.agg #[.pointer (some ⟨1, 25, none⟩)]))) :
    Calls Tryd.prog 35 #[.iface 23 (.int .i64 n), .iface 82 (.pointer (some t))] w fun ev w' => ev = .returned (.bool false) ∧ w' = (((w.alloc (.cells #[.pointer (some t)] 82)).alloc (.cells #[.pointer (some ⟨1, 82, none⟩), .pointer (some ⟨w.heap.size, 0, none⟩), .int .u64 150] 124)).alloc (.cells #[.pointer (some ⟨1, 82, none⟩), .pointer (some ⟨w.heap.size, 0, none⟩), .int .u64 150] 124)) := by
  have h67 := @run_callFunc_extern Tryd.prog 67 _ (fun args => ReflectliteValue.unpack (args.getD 0 (.tuple #[]))) Tryd.func67 (by kernel_rfl) (by kernel_rfl) (by kernel_rfl) (by kernel_rfl)
  have h68 := @run_callFunc_extern Tryd.prog 68 _ (ReflectliteValue.methodAny (ReflectliteValue.valueError "reflectlite.Value.Type" 0) (fun t _ _ _ => ReflectliteType.toType t)) Tryd.func68 (by kernel_rfl) (by kernel_rfl) (by kernel_rfl) (by kernel_rfl)
  have h69 := @run_callFunc_extern Tryd.prog 69 _ (ReflectliteValue.method (ReflectliteValue.valueError "reflectlite.Value.IsNil" 0) ReflectliteValue.isNil) Tryd.func69 (by kernel_rfl) (by kernel_rfl) (by kernel_rfl) (by kernel_rfl)
  have h127 := @run_callFunc_extern Tryd.prog 127 _ (ReflectliteType.abiMethod fun t => do pure (.int .u8 (← Rtype.kind t))) Tryd.func127 (by kernel_rfl) (by kernel_rfl) (by kernel_rfl) (by kernel_rfl)
  have h136 := @run_callFunc_extern Tryd.prog 136 _ (ReflectliteType.method ReflectliteType.elem) Tryd.func136 (by kernel_rfl) (by kernel_rfl) (by kernel_rfl) (by kernel_rfl)
  have h137 := @run_callFunc_extern Tryd.prog 137 _ (ReflectliteType.relation "Implements" ReflectliteType.implements_) Tryd.func137 (by kernel_rfl) (by kernel_rfl) (by kernel_rfl) (by kernel_rfl)
  have h72 := @run_callFunc_extern Tryd.prog 72 _ ReflectliteType.typeOf Tryd.func72 (by kernel_rfl) (by kernel_rfl) (by kernel_rfl) (by kernel_rfl)
  have h134 := @run_callFunc_extern Tryd.prog 134 _ (ReflectliteType.relation "AssignableTo" ReflectliteType.assignableTo) Tryd.func134 (by kernel_rfl) (by kernel_rfl) (by kernel_rfl) (by kernel_rfl)
  have tO := typeOf23
  have mA := methodAssignableTo
  have a23 := assignable23_43
  have f6 := valueOf82
  have f7 := type82
  have mK := methodKind
  have mE := methodElem
  have mI := methodImplements
  have k82 := kind82
  have k43 := kind43
  have e82 := elem82
  have i43 := implements43
  have n8 := isNil82 ⟨w.heap.size, 0, none⟩ t ((w.alloc (.cells #[.pointer (some t)] 82)).alloc (.cells #[.pointer (some ⟨1, 82, none⟩), .pointer (some ⟨w.heap.size, 0, none⟩), .int .u64 150] 124)) (by simp)
  have hlt : 0 < w.heap.size := by
    rcases Nat.eq_zero_or_pos w.heap.size with h0 | h
    · simp [World.cell?, h0] at hg
    · exact h
  have hg2 : ((w.alloc (.cells #[.pointer (some t)] 82)).alloc (.cells #[.pointer (some ⟨1, 82, none⟩), .pointer (some ⟨w.heap.size, 0, none⟩), .int .u64 150] 124)).cell? ⟨0, 0, none⟩ = some (.iface 165 (.agg #[.pointer (some ⟨1, 25, none⟩)])) := by
    rw [World.cell?_alloc_lt _ _ ⟨0, 0, none⟩ (by simp), World.cell?_alloc_lt _ _ ⟨0, 0, none⟩ hlt]; exact hg
  have q1 := noAs
  have q2 := noUnwrap
  have q3 := noUnwraps
  go_enter Tryd.func35, Tryd.ntmps35
  go_wp2
  refine wp_loop_rounds 1 ?_
  rw [rounds_succ]
  go_wp2
  go_ret
  exact ⟨rfl, rfl⟩
end Go.Proofs.Pen.As

namespace Go.Proofs.Pen.As
open Go Go.Proofs Go.RowKit Go.Extern.Stop Go.Stop Go.Extern Go.Proofs.YtfkgoljaeggbmabDoor

/-- The two variables of fault.Code. -/
noncomputable abbrev two (w : World) : World := (w.alloc (.cells #[.int .i64 0, .int .i64 0, .nilIface] 43)).alloc (.cells #[.int .i64 0] 23)

theorem code_nil (w : World) : Calls Tryd.prog 10 #[.nilIface] w fun ev w' => ev = .returned (.int .i64 0) ∧ w' = two w := by
  go_enter Tryd.func10, Tryd.ntmps10
  go_wp2
  go_ret
  exact ⟨rfl, rfl⟩

theorem kept_alloc (w : World) (o : Obj) : Below w.heap.size w (w.alloc o) := ⟨rfl, rfl, rfl, by show _ ≤ (w.heap.push o).size; simp, fun b hb => by
  show (w.heap.push o)[b]? = _
  rw [Array.getElem?_push, if_neg (by omega)]⟩
theorem below_more {n : Nat} {a b c : World} (h : Below n a b) (k : Below b.heap.size b c) (hn : n ≤ b.heap.size) : Below n a c :=
  ⟨k.os.trans h.os, k.tape.trans h.tape, k.output.trans h.output, Nat.le_trans h.size k.size, fun x hx => (k.block x (by omega)).trans (h.block x hx)⟩

theorem four (w : World) (a b c d : Obj) : Below w.heap.size w ((((w.alloc a).alloc b).alloc c).alloc d) :=
  below_more (below_more (below_more (kept_alloc w a) (kept_alloc _ b) (by simp)) (kept_alloc _ c) (by simp; omega)) (kept_alloc _ d) (by simp; omega)
theorem below_set {m n B : Nat} {w X : World} {o : Obj} (h : Below m w X) (hB : n ≤ B) (hn : n ≤ m) : Below n w (setBlk X B o) :=
  ⟨h.os, h.tape, h.output, by show _ ≤ (Array.setIfInBounds _ _ _).size; rw [Array.size_setIfInBounds]; exact h.size, fun b hb => by rw [setBlk_other (by omega)]; exact h.block b (by omega)⟩

/-- What errors.As leaves at a Fault. -/
theorem hit43 (c l : Int) (e : Value) (B : Nat) (o0 o1 o2 : Value) (w : World) (he : e.oneCell' = true) (hg : w.cell? ⟨0, 0, none⟩ = some (.iface 165 (.agg #[.pointer (some ⟨1, 25, none⟩)]))) (ht0 : w.heap[B]? = some (.cells #[o0, o1, o2] 43 (0, 0))) :
    Calls Tryd.prog 35 #[.iface 43 (.agg #[.int .i64 c, .int .i64 l, e]), .iface 82 (.pointer (some ⟨B, 0, none⟩))] w fun ev w' => ev = .returned (.bool true) ∧ w'.cell? ⟨B, 0, none⟩ = some (.int .i64 c) ∧ ∀ n, n ≤ B → Below n w w' := by
  refine (as_hit43 c l e B o0 o1 o2 w he hg ht0).mono ?_
  rintro ev w' ⟨rfl, rfl⟩
  have htl : B < w.heap.size := (Array.getElem?_eq_some_iff.1 ht0).1
  refine ⟨rfl, ?_, fun n hn => ?_⟩
  · have hB : (World.heap _)[B]? = some (.cells #[o0, o1, o2] 43 (0, 0)) := ((four w (.cells #[.pointer (some ⟨B, 0, none⟩)] 82) (.cells #[.pointer (some ⟨1, 82, none⟩), .pointer (some ⟨w.heap.size, 0, none⟩), .int .u64 150] 124) (.cells #[.pointer (some ⟨1, 82, none⟩), .pointer (some ⟨w.heap.size, 0, none⟩), .int .u64 150] 124) (.cells #[.int .i64 c, .int .i64 l, e] 43)).block B htl).trans ht0
    have := setBlk_at (o := .cells #[.int .i64 c, .int .i64 l, e] 43 (0, 0)) hB
    exact cell_at (vs := [.int .i64 c, .int .i64 l, e]) this 0
  · exact below_set (four w _ _ _ _) hn (by omega)

set_option maxHeartbeats 4000000 in
theorem code_fault (c l : Int) (e : Value) (w : World) (he : e.oneCell' = true) (hg : w.cell? ⟨0, 0, none⟩ = some (.iface 165 (.agg #[.pointer (some ⟨1, 25, none⟩)]))) :
    Calls Tryd.prog 10 #[.iface 43 (.agg #[.int .i64 c, .int .i64 l, e])] w fun ev w' => ev = .returned (.int .i64 c) ∧ Below w.heap.size w w' := by
  have hlt : 0 < w.heap.size := by
    rcases Nat.eq_zero_or_pos w.heap.size with h0 | h
    · simp [World.cell?, h0] at hg
    · exact h
  have hgA : (two w).cell? ⟨0, 0, none⟩ = some (.iface 165 (.agg #[.pointer (some ⟨1, 25, none⟩)])) := by
    rw [World.cell?_alloc_lt _ _ ⟨0, 0, none⟩ (by simp), World.cell?_alloc_lt _ _ ⟨0, 0, none⟩ hlt]; exact hg
  have htA : (two w).heap[w.heap.size]? = some (.cells #[.int .i64 0, .int .i64 0, .nilIface] 43 (0, 0)) := by
    show ((w.heap.push _).push _)[w.heap.size]? = _
    rw [Array.getElem?_push, if_neg (by simp), Array.getElem?_push, if_pos rfl]
  have hbA : Below w.heap.size w (two w) := below_more (kept_alloc w _) (kept_alloc _ _) (by simp)
  go_enter Tryd.func10, Tryd.ntmps10
  go_wp2_with (first | (go_at_call 35; refine (hit43 _ _ _ _ _ _ _ _ he hgA htA).mono ?_; rintro ev w' ⟨rfl, hc, hb⟩))
  go_ret
  refine ⟨rfl, ?_⟩
  have := hb w.heap.size (Nat.le_refl _)
  exact ⟨this.os.trans hbA.os, this.tape.trans hbA.tape, this.output.trans hbA.output, Nat.le_trans hbA.size this.size, fun b hb' => (this.block b hb').trans (hbA.block b hb')⟩
end Go.Proofs.Pen.As

namespace Go.Proofs.Pen.As
open Go Go.Proofs Go.RowKit Go.Extern.Stop Go.Stop Go.Extern Go.Proofs.YtfkgoljaeggbmabDoor

theorem three (w : World) (a b c : Obj) : Below w.heap.size w (((w.alloc a).alloc b).alloc c) :=
  below_more (below_more (kept_alloc w a) (kept_alloc _ b) (by simp)) (kept_alloc _ c) (by simp; omega)

theorem miss43 (n : Int) (t : Addr) (w : World) (hg : w.cell? ⟨0, 0, none⟩ = some (.iface 165 (.agg #[.pointer (some ⟨1, 25, none⟩)]))) :
    Calls Tryd.prog 35 #[.iface 23 (.int .i64 n), .iface 82 (.pointer (some t))] w fun ev w' => ev = .returned (.bool false) ∧ Below w.heap.size w w' := by
  refine (as_miss n t w hg).mono ?_
  rintro ev w' ⟨rfl, rfl⟩
  exact ⟨rfl, three w _ _ _⟩

theorem hit23 (n : Int) (B : Nat) (old : Value) (w : World) (hg : w.cell? ⟨0, 0, none⟩ = some (.iface 165 (.agg #[.pointer (some ⟨1, 25, none⟩)]))) (ht0 : w.heap[B]? = some (.cells #[old] 23 (0, 0))) :
    Calls Tryd.prog 35 #[.iface 23 (.int .i64 n), .iface 83 (.pointer (some ⟨B, 0, none⟩))] w fun ev w' => ev = .returned (.bool true) ∧ w'.cell? ⟨B, 0, none⟩ = some (.int .i64 n) ∧ ∀ m, m ≤ B → Below m w w' := by
  have htl : B < w.heap.size := (Array.getElem?_eq_some_iff.1 ht0).1
  refine (as_hit23 n ⟨B, 0, none⟩ old w hg (cell_at (vs := [old]) ht0 0) (by simp [World.frozen?, ht0])).mono ?_
  rintro ev w' ⟨rfl, rfl⟩
  have hB : (World.heap _)[B]? = some (.cells [old].toArray 23 (0, 0)) := ((four w (.cells #[.pointer (some ⟨B, 0, none⟩)] 83) (.cells #[.pointer (some ⟨1, 83, none⟩), .pointer (some ⟨w.heap.size, 0, none⟩), .int .u64 150] 124) (.cells #[.pointer (some ⟨1, 83, none⟩), .pointer (some ⟨w.heap.size, 0, none⟩), .int .u64 150] 124) (.cells #[.int .i64 n] 23)).block B htl).trans ht0
  rw [setCell_setBlk hB]
  exact ⟨rfl, cell_at (vs := [.int .i64 n]) (setBlk_at hB) 0, fun m hm => below_set (four w _ _ _ _) hm (by omega)⟩

set_option maxRecDepth 100000 in
set_option maxHeartbeats 4000000 in
theorem code_errno (n : Int) (w : World) (hg : w.cell? ⟨0, 0, none⟩ = some (.iface 165 (.agg #[.pointer (some ⟨1, 25, none⟩)]))) :
    Calls Tryd.prog 10 #[.iface 23 (.int .i64 n)] w fun ev w' => ev = .returned (.int .i64 n) ∧ Below w.heap.size w w' := by
  have hlt : 0 < w.heap.size := by
    rcases Nat.eq_zero_or_pos w.heap.size with h0 | h
    · simp [World.cell?, h0] at hg
    · exact h
  have hgA : (two w).cell? ⟨0, 0, none⟩ = some (.iface 165 (.agg #[.pointer (some ⟨1, 25, none⟩)])) := by
    rw [World.cell?_alloc_lt _ _ ⟨0, 0, none⟩ (by simp), World.cell?_alloc_lt _ _ ⟨0, 0, none⟩ hlt]; exact hg
  have htA : (two w).heap[w.heap.size + 1]? = some (.cells #[.int .i64 0] 23 (0, 0)) := by
    show ((w.heap.push _).push _)[w.heap.size + 1]? = _
    rw [Array.getElem?_push, if_pos (by simp)]
  have hbA : Below w.heap.size w (two w) := below_more (kept_alloc w _) (kept_alloc _ _) (by simp)
  have hszA : (two w).heap.size = w.heap.size + 1 + 1 := by simp
  have step : ∀ w1, Below (two w).heap.size (two w) w1 → w1.cell? ⟨0, 0, none⟩ = some (.iface 165 (.agg #[.pointer (some ⟨1, 25, none⟩)])) ∧ w1.heap[w.heap.size + 1]? = some (.cells #[.int .i64 0] 23 (0, 0)) := fun w1 h => by
    have z0 : 0 < (two w).heap.size := by rw [hszA]; omega
    have z1 : w.heap.size + 1 < (two w).heap.size := by rw [hszA]; omega
    have e0 := h.block 0 z0
    have e1 := h.block _ z1
    refine ⟨?_, e1.trans htA⟩
    rw [← hgA]
    unfold World.cell?
    rw [e0]
  go_enter Tryd.func10, Tryd.ntmps10
  go_wp2_with (first
    | (go_at_call 35; refine (hit23 _ _ _ _ g1 t1).mono ?_; rintro ev w2 ⟨rfl, hc, hb2⟩)
    | (go_at_call 35; refine (miss43 _ _ _ hgA).mono ?_; rintro ev w1 ⟨rfl, hb1⟩; obtain ⟨g1, t1⟩ := step w1 hb1))
  go_ret
  refine ⟨rfl, ?_⟩
  have q := hb2 w.heap.size (by omega)
  exact ⟨q.os.trans (hb1.os.trans hbA.os), q.tape.trans (hb1.tape.trans hbA.tape), q.output.trans (hb1.output.trans hbA.output), Nat.le_trans hbA.size (Nat.le_trans hb1.size q.size),
    fun b hb' => (q.block b hb').trans ((hb1.block b (by omega)).trans (hbA.block b hb'))⟩
end Go.Proofs.Pen.As

namespace Go.Proofs.Pen
open Go Go.Proofs Go.RowKit Go.Extern.Stop Go.Stop Go.Extern Go.Proofs.YtfkgoljaeggbmabDoor

/-- What an error's chain goes on with: nothing, or another error. -/
def linkAV : AV → Bool
  | .nili => true
  | .ifc _ _ => true
  | _ => false

def ErrD.top : ErrD → Int
  | .nil => 0
  | .code n => n
  | .fault c _ _ => c

theorem err_one (tf te : Nat) : ∀ e : ErrD, (errVal tf te e).oneCell' = true
  | .nil => rfl
  | .code _ => rfl
  | .fault _ _ _ => rfl

/-- fault.Code. -/
def codeAV : List AV → T AV
  | [.nili] => .ret (.it .i64 0)
  | [.ifc t (.agg [.it .i64 c, .it .i64 _, e])] => if t = 43 ∧ linkAV e = true then .ret (.it .i64 c) else .fail
  | [.ifc t (.it .i64 n)] => if t = 23 then .ret (.it .i64 n) else .fail
  | [.er tf te x] => if tf = 43 ∧ te = 23 then .ret (.it .i64 x.top) else .fail
  | _ => .fail

theorem link_one {r : Res} {e : AV} {v : Value} (h : linkAV e = true) (hv : VRel r e v) : v.oneCell' = true := by
  cases e <;> simp [linkAV] at h
  · simp only [VRel] at hv; subst hv; rfl
  · simp only [VRel] at hv; obtain ⟨u, rfl, _⟩ := hv; rfl

theorem code_ok : FnOK Tryd.prog 10 codeAV := by
  intro args v hv
  refine ⟨by kernel_rfl, fun r w us hι hp hgl hl => ?_⟩
  have hg : w.cell? ⟨0, 0, none⟩ = some (.iface 165 (.agg #[.pointer (some ⟨1, 25, none⟩)])) := hp _ _ (hgl _ _ door_globOf)
  have close : ∀ (n : Int) (us : List Value), v = .it .i64 n → (Calls Tryd.prog 10 us.toArray w fun ev w' => ev = .returned (.int .i64 n) ∧ Below w.heap.size w w') →
      Calls Tryd.prog 10 us.toArray w fun e w' => ∃ u r', e = .returned u ∧ r.le r' ∧ Below w.heap.size w w' ∧ (∀ a x, r'.H a = some x → w'.cell? a = some x) ∧
        (∀ a x, r'.H a = some x → r.H a = some x ∨ w.heap.size ≤ a.block) ∧ (∀ i, r'.ι i = none) ∧ VRel r' v u := by
    intro n us hvn h
    refine h.mono ?_
    rintro ev w' ⟨rfl, hb⟩
    refine ⟨_, r, rfl, .refl r, hb, fun a x e => ?_, fun a x e => .inl e, hι, by subst hvn; simp only [VRel]⟩
    have hc := hp a x e
    have hlt : a.block < w.heap.size := by
      rcases Nat.lt_or_ge a.block w.heap.size with h | h
      · exact h
      · simp [World.cell?, Array.getElem?_eq_none h] at hc
    rw [← hc]
    exact World.cell?_of_block (hb.block _ hlt)
  unfold codeAV at hv
  split at hv
  · have := run_ret hv; subst this
    simp only [LRel] at hl
    obtain ⟨u, us', rfl, hu, hl⟩ := hl
    simp only [VRel] at hu; subst hu
    subst hl
    refine close 0 _ rfl ((As.code_nil w).mono ?_)
    rintro ev w' ⟨rfl, rfl⟩
    exact ⟨rfl, As.below_more (As.kept_alloc w _) (As.kept_alloc _ _) (by simp)⟩
  · rename_i t c l e
    split at hv
    · rename_i ht
      obtain ⟨rfl, hlk⟩ := ht
      have := run_ret hv; subst this
      simp only [LRel] at hl
      obtain ⟨u, us', rfl, hu, hl⟩ := hl
      subst hl
      simp only [VRel, LRel] at hu
      obtain ⟨u1, rfl, vs, rfl, x1, y1, rfl, rfl, x2, y2, rfl, rfl, x3, y3, rfl, h3, rfl⟩ := hu
      exact close c _ rfl (As.code_fault c l x3 w (link_one hlk h3) hg)
    · exact (run_fail hv).elim
  · rename_i t n
    split at hv
    · rename_i ht
      subst ht
      have := run_ret hv; subst this
      simp only [LRel] at hl
      obtain ⟨u, us', rfl, hu, hl⟩ := hl
      subst hl
      simp only [VRel] at hu
      obtain ⟨u1, rfl, rfl⟩ := hu
      exact close n _ rfl (As.code_errno n w hg)
    · exact (run_fail hv).elim
  · rename_i tf te x
    split at hv
    · rename_i ht
      obtain ⟨rfl, rfl⟩ := ht
      have := run_ret hv; subst this
      simp only [LRel] at hl
      obtain ⟨u, us', rfl, hu, hl⟩ := hl
      subst hl
      simp only [VRel] at hu
      subst hu
      cases x with
      | nil =>
        refine close 0 _ rfl ((As.code_nil w).mono ?_)
        rintro ev w' ⟨rfl, rfl⟩
        exact ⟨rfl, As.below_more (As.kept_alloc w _) (As.kept_alloc _ _) (by simp)⟩
      | code n => exact close n _ rfl (As.code_errno n w hg)
      | fault c l e => exact close c _ rfl (As.code_fault c l (errVal 43 23 e) w (err_one 43 23 e) hg)
    · exact (run_fail hv).elim
  · exact (run_fail hv).elim
end Go.Proofs.Pen

namespace Go.Proofs.Pen
open Go Go.Proofs
abbrev TI : Ty := (.int .i64)
abbrev TE : Ty := (.er 43 23)
abbrev TF : Ty := (.st (.pair (.int .i64) (.pair (.int .i64) (.er 43 23))))
abbrev TP : Ty := (.st (.pair (.int .i64) (.pair (.int .i64) (.int .i64))))
abbrev TLitD : Ty := (.st (.pair (.int .i64) (.st (.pair (.int .i64) (.pair (.int .i64) (.int .i64))))))
abbrev TMatD : Ty := (.st (.pair (.st (.pair (.int .i64) (.pair (.int .i64) (.int .i64)))) (.pair (.st (.pair (.int .i64) (.pair (.int .i64) (.int .i64)))) (.int .i64))))
abbrev TTriD : Ty := (.st (.pair (.st (.pair (.int .i64) (.pair (.int .i64) (.int .i64)))) (.pair (.st (.pair (.int .i64) (.pair (.int .i64) (.int .i64)))) (.pair (.st (.pair (.int .i64) (.pair (.int .i64) (.int .i64)))) (.int .i64)))))
abbrev TCam : Ty := (.st (.pair (.st (.pair (.int .i64) (.pair (.int .i64) (.int .i64)))) (.pair (.st (.pair (.int .i64) (.pair (.int .i64) (.int .i64)))) (.pair (.st (.pair (.int .i64) (.pair (.int .i64) (.int .i64)))) (.pair (.int .i64) (.pair (.int .i64) (.int .i64)))))))
abbrev TScn : Ty := (.st (.pair (.sl (.st (.pair (.st (.pair (.int .i64) (.pair (.int .i64) (.int .i64)))) (.pair (.st (.pair (.int .i64) (.pair (.int .i64) (.int .i64)))) (.int .i64))))) (.pair (.sl (.st (.pair (.st (.pair (.int .i64) (.pair (.int .i64) (.int .i64)))) (.pair (.st (.pair (.int .i64) (.pair (.int .i64) (.int .i64)))) (.pair (.st (.pair (.int .i64) (.pair (.int .i64) (.int .i64)))) (.int .i64)))))) (.pair (.sl (.st (.pair (.int .i64) (.st (.pair (.int .i64) (.pair (.int .i64) (.int .i64))))))) (.pair (.int .i64) (.pair (.sl (.st (.pair (.int .i64) (.pair (.int .i64) (.int .i64))))) (.pair (.st (.pair (.st (.pair (.int .i64) (.pair (.int .i64) (.int .i64)))) (.pair (.st (.pair (.int .i64) (.pair (.int .i64) (.int .i64)))) (.pair (.st (.pair (.int .i64) (.pair (.int .i64) (.int .i64)))) (.pair (.int .i64) (.pair (.int .i64) (.int .i64))))))) (.pair (.int .i64) (.int .i64)))))))))
theorem mixed : Tryd.prog.follows .mixedOrders = true := by kernel_rfl
theorem x72 : ExOK Tryd.prog 72 (typeOfAV 165 Tryd.prog.globals.size) := typeOf_ok (by intros; kernel_rfl) (by intros; kernel_rfl)
theorem x135 : ExOK Tryd.prog 135 (comparableAV Tryd.prog.globals.size [23]) := comparable_ok (by intro t h w; rw [show t = 23 by simpa using h]; kernel_rfl)
noncomputable def Xs : Nat → List AV → T AV := ext (ext (ext noQ 72 (typeOfAV 165 Tryd.prog.globals.size)) 135 (comparableAV Tryd.prog.globals.size [23])) 10 codeAV
theorem Xok : QuietOK Tryd.prog Xs := quiet_ext (quiet_extE (quiet_extE (quiet_none _) x72) x135) code_ok
noncomputable def tb : DTab := (tbExt (tbExt (tbExt (tbExt tbNone 61 (cloneD TMatD 56)) 62 (cloneD TTriD 80)) 63 (cloneD TLitD 32)) 64 (cloneD TP 24))
theorem tbOk : TBOK Tryd.prog tb := (tb_ext (tb_ext (tb_ext (tb_ext (tb_none _) (clone_deep (F := { quiet := noQ, deep := noDeep }) (D := D0) (S := noS) mixed (quiet_none _) (deep_none _) Tryd.func61 (by kernel_rfl) (fun c _ => sok_none _ 0 c) (by kernel_rfl) (t := TMatD) (bt := 56) (by kernel_rfl) (fun v => by kernel_rfl) (fun xs => by kernel_rfl))) (clone_deep (F := { quiet := noQ, deep := noDeep }) (D := D0) (S := noS) mixed (quiet_none _) (deep_none _) Tryd.func62 (by kernel_rfl) (fun c _ => sok_none _ 0 c) (by kernel_rfl) (t := TTriD) (bt := 80) (by kernel_rfl) (fun v => by kernel_rfl) (fun xs => by kernel_rfl))) (clone_deep (F := { quiet := noQ, deep := noDeep }) (D := D0) (S := noS) mixed (quiet_none _) (deep_none _) Tryd.func63 (by kernel_rfl) (fun c _ => sok_none _ 0 c) (by kernel_rfl) (t := TLitD) (bt := 32) (by kernel_rfl) (fun v => by kernel_rfl) (fun xs => by kernel_rfl))) (clone_deep (F := { quiet := noQ, deep := noDeep }) (D := D0) (S := noS) mixed (quiet_none _) (deep_none _) Tryd.func64 (by kernel_rfl) (fun c _ => sok_none _ 0 c) (by kernel_rfl) (t := TP) (bt := 24) (by kernel_rfl) (fun v => by kernel_rfl) (fun xs => by kernel_rfl)))
end Go.Proofs.Pen

namespace Go.Proofs.Pen
open Go Go.Proofs
noncomputable def fault_New.t (x : Int × Int) : T (ErrD) := T.ite (x.1 == (0 : Int)) (T.ret ErrD.nil) (T.ret (ErrD.fault x.1 x.2 ErrD.nil))
noncomputable def fault_New (x : Int × Int) : Option (ErrD) := (fault_New.t x).run
noncomputable def fault_New.q : List AV → T AV := entry [TI, TI] (outR [TE]) fun x => .opt (fault_New x) .ret
theorem fault_New.ok : FnOK Tryd.prog 19 fault_New.q :=
  entry_call (ps := [TI, TI]) (rs := [TE]) (F := ({ quiet := Xs, deep := noDeep } : Fns)) (D := D0) (S := tabS []) (t := fault_New.t) mixed Xok (deep_none _) Tryd.func19 (by kernel_rfl) (sok_fn trivial) (by kernel_rfl) (fun x => by kernel_rfl)
end Go.Proofs.Pen

namespace Go.Proofs.Pen
open Go Go.Proofs
noncomputable def fault_Wrap.t (x : ErrD × Int × Int) : T (ErrD) := T.ite (ErrD.isNil x.1 || x.2.1 == (0 : Int)) (T.ret x.1) (T.ret (ErrD.fault x.2.1 x.2.2 x.1))
noncomputable def fault_Wrap (x : ErrD × Int × Int) : Option (ErrD) := (fault_Wrap.t x).run
noncomputable def fault_Wrap.q : List AV → T AV := entry [TE, TI, TI] (outR [TE]) fun x => .opt (fault_Wrap x) .ret
theorem fault_Wrap.ok : FnOK Tryd.prog 18 fault_Wrap.q :=
  entry_call (ps := [TE, TI, TI]) (rs := [TE]) (F := ({ quiet := Xs, deep := noDeep } : Fns)) (D := D0) (S := tabS []) (t := fault_Wrap.t) mixed Xok (deep_none _) Tryd.func18 (by kernel_rfl) (sok_fn trivial) (by kernel_rfl) (fun x => by kernel_rfl)
end Go.Proofs.Pen

namespace Go.Proofs.Pen
open Go Go.Proofs
noncomputable def scene_bound.t (x : Int × Int) : T (ErrD) := T.opt (fault_New x) fun y => T.opt (fault_Wrap (y, (10 : Int), (0 : Int))) fun y => T.ret y
noncomputable def scene_bound (x : Int × Int) : Option (ErrD) := (scene_bound.t x).run
noncomputable def scene_bound.q : List AV → T AV := entry [TI, TI] (outR [TE]) fun x => .opt (scene_bound x) .ret
theorem scene_bound.ok : FnOK Tryd.prog 82 scene_bound.q :=
  entry_call (ps := [TI, TI]) (rs := [TE]) (F := ({ quiet := (ext (ext Xs 19 fault_New.q) 18 fault_Wrap.q), deep := noDeep } : Fns)) (D := D0) (S := tabS []) (t := scene_bound.t) mixed (quiet_ext (quiet_ext Xok fault_New.ok) fault_Wrap.ok) (deep_none _) Tryd.func82 (by kernel_rfl) (sok_fn trivial) (by kernel_rfl) (fun x => by kernel_rfl)
end Go.Proofs.Pen

namespace Go.Proofs.Pen
open Go Go.Proofs
noncomputable def scene_many.t (x : ((List ((Int × Int × Int) × (Int × Int × Int) × Int)) × (List ((Int × Int × Int) × (Int × Int × Int) × (Int × Int × Int) × Int)) × (List (Int × Int × Int × Int)) × Int × (List (Int × Int × Int)) × ((Int × Int × Int) × (Int × Int × Int) × (Int × Int × Int) × Int × Int × Int) × Int × Int)) : T (ErrD) := T.ite (decide ((↑(List.length x.1) : Int) > (32 : Int)) || decide ((↑(List.length x.2.1) : Int) > (512 : Int)) || decide ((↑(List.length x.2.2.1) : Int) > (512 : Int)) || decide (x.2.2.2.1 > (16 : Int))) (T.opt (scene_bound ((4 : Int), (0 : Int))) fun y => T.ret y) (T.ret ErrD.nil)
noncomputable def scene_many (x : ((List ((Int × Int × Int) × (Int × Int × Int) × Int)) × (List ((Int × Int × Int) × (Int × Int × Int) × (Int × Int × Int) × Int)) × (List (Int × Int × Int × Int)) × Int × (List (Int × Int × Int)) × ((Int × Int × Int) × (Int × Int × Int) × (Int × Int × Int) × Int × Int × Int) × Int × Int)) : Option (ErrD) := (scene_many.t x).run
noncomputable def scene_many.q : List AV → T AV := entry [TScn] (outR [TE]) fun x => .opt (scene_many x) .ret
theorem scene_many.ok : FnOK Tryd.prog 46 scene_many.q :=
  entry_call (ps := [TScn]) (rs := [TE]) (F := ({ quiet := (ext Xs 82 scene_bound.q), deep := noDeep } : Fns)) (D := D0) (S := tabS []) (t := scene_many.t) mixed (quiet_ext Xok scene_bound.ok) (deep_none _) Tryd.func46 (by kernel_rfl) (sok_fn trivial) (by kernel_rfl) (fun x => by kernel_rfl)
end Go.Proofs.Pen

namespace Go.Proofs.Pen
open Go Go.Proofs
def slices_Min.L0 : List (Nat × Lay) := [(0, .val (.sl TI)), (3, .val TI), (4, .val TI)]
noncomputable def slices_Min.t0 (x : (List (Int)) × Int × Int × Unit) : T (Ex × (List (Int)) × Int × Int × Unit) := T.ite (decide (x.2.2.1 < (↑(List.length x.1) : Int))) (T.opt (lget x.1 x.2.2.1) fun y => T.ret (Ex.normal, x.1, if y < x.2.1 then y else x.2.1, W (x.2.2.1 + (1 : Int)), ())) (T.ret (Ex.exit (0 : Nat), x.1, x.2.1, x.2.2.1, ()))
noncomputable def slices_Min.l0 (x : (List (Int)) × Int × Int × Unit) : Option (Ex × (List (Int)) × Int × Int × Unit) := (iterT slices_Min.t0 rounds x).run
theorem slices_Min.k0 : bodies 0 (lp Tryd.f104 []) = [.loop (loopIn 0 (lp Tryd.f104 []))] ∧ WP Tryd.prog 0 (.block 0 (.loop (loopIn 0 (lp Tryd.f104 [])))) (loopS slices_Min.L0 25 0 [.exit 0] slices_Min.l0) :=
  loop_tree (L := slices_Min.L0) (F := ({ quiet := Xs, deep := noDeep } : Fns)) (D := D0) (tab := []) (t := slices_Min.t0) mixed Xok (deep_none _) (fun _ => rfl) (by kernel_rfl) (by kernel_rfl) trivial (fun x => by kernel_rfl)
noncomputable def slices_Min.t (x : (List (Int))) : T (Int) := T.ite (decide ((↑(List.length x) : Int) < (1 : Int))) T.fail (T.opt (lget x (0 : Int)) fun y => T.opt (slices_Min.l0 (x, y, (1 : Int), ())) fun y => T.ite (exEq y.1 (Ex.exit (0 : Nat))) (T.ret y.2.2.1) T.fail)
noncomputable def slices_Min (x : (List (Int))) : Option (Int) := (slices_Min.t x).run
noncomputable def slices_Min.q : List AV → T AV := entry [(.sl TI)] (outR [TI]) fun x => .opt (slices_Min x) .ret
theorem slices_Min.ok : FnOK Tryd.prog 104 slices_Min.q :=
  entry_call (ps := [(.sl TI)]) (rs := [TI]) (F := ({ quiet := Xs, deep := noDeep } : Fns)) (D := D0) (S := tabS [(0, loopS slices_Min.L0 25 0 [.exit 0] slices_Min.l0)]) (t := slices_Min.t) mixed Xok (deep_none _) Tryd.func104 (by kernel_rfl) (sok_fn ⟨slices_Min.k0, trivial⟩) (by kernel_rfl) (fun x => by kernel_rfl)
end Go.Proofs.Pen

namespace Go.Proofs.Pen
open Go Go.Proofs
def slices_Max.L0 : List (Nat × Lay) := [(0, .val (.sl TI)), (3, .val TI), (4, .val TI)]
noncomputable def slices_Max.t0 (x : (List (Int)) × Int × Int × Unit) : T (Ex × (List (Int)) × Int × Int × Unit) := T.ite (decide (x.2.2.1 < (↑(List.length x.1) : Int))) (T.opt (lget x.1 x.2.2.1) fun y => T.ret (Ex.normal, x.1, if y > x.2.1 then y else x.2.1, W (x.2.2.1 + (1 : Int)), ())) (T.ret (Ex.exit (0 : Nat), x.1, x.2.1, x.2.2.1, ()))
noncomputable def slices_Max.l0 (x : (List (Int)) × Int × Int × Unit) : Option (Ex × (List (Int)) × Int × Int × Unit) := (iterT slices_Max.t0 rounds x).run
theorem slices_Max.k0 : bodies 0 (lp Tryd.f76 []) = [.loop (loopIn 0 (lp Tryd.f76 []))] ∧ WP Tryd.prog 0 (.block 0 (.loop (loopIn 0 (lp Tryd.f76 [])))) (loopS slices_Max.L0 25 0 [.exit 0] slices_Max.l0) :=
  loop_tree (L := slices_Max.L0) (F := ({ quiet := Xs, deep := noDeep } : Fns)) (D := D0) (tab := []) (t := slices_Max.t0) mixed Xok (deep_none _) (fun _ => rfl) (by kernel_rfl) (by kernel_rfl) trivial (fun x => by kernel_rfl)
noncomputable def slices_Max.t (x : (List (Int))) : T (Int) := T.ite (decide ((↑(List.length x) : Int) < (1 : Int))) T.fail (T.opt (lget x (0 : Int)) fun y => T.opt (slices_Max.l0 (x, y, (1 : Int), ())) fun y => T.ite (exEq y.1 (Ex.exit (0 : Nat))) (T.ret y.2.2.1) T.fail)
noncomputable def slices_Max (x : (List (Int))) : Option (Int) := (slices_Max.t x).run
noncomputable def slices_Max.q : List AV → T AV := entry [(.sl TI)] (outR [TI]) fun x => .opt (slices_Max x) .ret
theorem slices_Max.ok : FnOK Tryd.prog 76 slices_Max.q :=
  entry_call (ps := [(.sl TI)]) (rs := [TI]) (F := ({ quiet := Xs, deep := noDeep } : Fns)) (D := D0) (S := tabS [(0, loopS slices_Max.L0 25 0 [.exit 0] slices_Max.l0)]) (t := slices_Max.t) mixed Xok (deep_none _) Tryd.func76 (by kernel_rfl) (sok_fn ⟨slices_Max.k0, trivial⟩) (by kernel_rfl) (fun x => by kernel_rfl)
end Go.Proofs.Pen

namespace Go.Proofs.Pen
open Go Go.Proofs
noncomputable def scene_within_1.t (x : (List (Int)) × Int × Int) : T (Bool) := T.opt (slices_Min x.1) fun y => T.ite (decide (y ≥ x.2.1)) (T.opt (slices_Max x.1) fun y => T.ret (decide (y ≤ x.2.2))) (T.ret false)
noncomputable def scene_within_1 (x : (List (Int)) × Int × Int) : Option (Bool) := (scene_within_1.t x).run
noncomputable def scene_within_1.q : List AV → T AV := entry [(.sl TI), (.ptr TI), (.ptr TI)] (outR [.bool]) fun x => .opt (scene_within_1 x) .ret
theorem scene_within_1.ok : FnOK Tryd.prog 103 scene_within_1.q :=
  entry_call (ps := [(.sl TI), (.ptr TI), (.ptr TI)]) (rs := [.bool]) (F := ({ quiet := (ext (ext Xs 104 slices_Min.q) 76 slices_Max.q), deep := noDeep } : Fns)) (D := D0) (S := tabS []) (t := scene_within_1.t) mixed (quiet_ext (quiet_ext Xok slices_Min.ok) slices_Max.ok) (deep_none _) Tryd.func103 (by kernel_rfl) (sok_fn trivial) (by kernel_rfl) (fun x => by kernel_rfl)
end Go.Proofs.Pen

namespace Go.Proofs.Pen
open Go Go.Proofs
noncomputable def scene_within.t (x : Int × Int) : T ((Int × Int)) := T.ret x
noncomputable def scene_within.q : List AV → T AV := entry [TI, TI] (outR [(.clo 103 (.pair (.ptr TI) (.ptr TI)))]) scene_within.t
theorem scene_within.ok : FnOK Tryd.prog 83 scene_within.q :=
  entry_in (ps := [TI, TI]) (rs := [(.clo 103 (.pair (.ptr TI) (.ptr TI)))]) (F := ({ quiet := (ext Xs 103 scene_within_1.q), deep := noDeep } : Fns)) (D := D0) (S := tabS []) (t := scene_within.t) mixed (quiet_ext Xok scene_within_1.ok) (deep_none _) Tryd.func83 (by kernel_rfl) (sok_fn trivial) (by kernel_rfl) (fun x => by kernel_rfl)
end Go.Proofs.Pen

namespace Go.Proofs.Pen
open Go Go.Proofs
noncomputable def scene_point.t (x : (Int × Int × Int)) : T ((List (Int))) := T.ret (List.take (3 : Nat) [x.1, x.2.1, x.2.2])
noncomputable def scene_point.q : List AV → T AV := entry [TP] (outR [(.sl TI)]) scene_point.t
theorem scene_point.ok : FnOK Tryd.prog 77 scene_point.q :=
  entry_in (ps := [TP]) (rs := [(.sl TI)]) (F := ({ quiet := Xs, deep := noDeep } : Fns)) (D := D0) (S := tabS []) (t := scene_point.t) mixed Xok (deep_none _) Tryd.func77 (by kernel_rfl) (sok_fn trivial) (by kernel_rfl) (fun x => by kernel_rfl)
end Go.Proofs.Pen

namespace Go.Proofs.Pen
open Go Go.Proofs
noncomputable def scene_broken.t (x : Int × Int) : T (ErrD) := T.opt (fault_New x) fun y => T.opt (fault_Wrap (y, (11 : Int), (0 : Int))) fun y => T.ret y
noncomputable def scene_broken (x : Int × Int) : Option (ErrD) := (scene_broken.t x).run
noncomputable def scene_broken.q : List AV → T AV := entry [TI, TI] (outR [TE]) fun x => .opt (scene_broken x) .ret
theorem scene_broken.ok : FnOK Tryd.prog 84 scene_broken.q :=
  entry_call (ps := [TI, TI]) (rs := [TE]) (F := ({ quiet := (ext (ext Xs 19 fault_New.q) 18 fault_Wrap.q), deep := noDeep } : Fns)) (D := D0) (S := tabS []) (t := scene_broken.t) mixed (quiet_ext (quiet_ext Xok fault_New.ok) fault_Wrap.ok) (deep_none _) Tryd.func84 (by kernel_rfl) (sok_fn trivial) (by kernel_rfl) (fun x => by kernel_rfl)
end Go.Proofs.Pen

namespace Go.Proofs.Pen
open Go Go.Proofs
def scene_mats.L2 : List (Nat × Lay) := [(2, .val TE), (3, .val (.clo 103 (.pair (.ptr TI) (.ptr TI)))), (4, .val TI), (5, .box TMatD), (10, .val (.sl TMatD)), (11, .val TI), (12, .val TI), (44, .val (.sl TI)), (45, .val TI), (46, .val TI)]
noncomputable def scene_mats.t2 (x : ErrD × (Int × Int) × Int × ((Int × Int × Int) × (Int × Int × Int) × Int) × (List ((Int × Int × Int) × (Int × Int × Int) × Int)) × Int × Int × (List (Int)) × Int × Int × Unit) : T (Ex × ErrD × (Int × Int) × Int × ((Int × Int × Int) × (Int × Int × Int) × Int) × (List ((Int × Int × Int) × (Int × Int × Int) × Int)) × Int × Int × (List (Int)) × Int × Int × Unit) := T.ite (decide (x.2.2.2.2.2.2.2.2.2.1 < x.2.2.2.2.2.2.2.2.1)) (T.opt (lget x.2.2.2.2.2.2.2.1 x.2.2.2.2.2.2.2.2.2.1) fun y => T.ite (decide (y ≥ (1024 : Int))) (T.opt (scene_broken ((4 : Int), W (x.2.2.1 + (1 : Int)))) fun y => T.ret (Ex.ret, y, x.2.1, x.2.2.1, x.2.2.2.1, x.2.2.2.2.1, x.2.2.2.2.2.1, x.2.2.2.2.2.2.1, x.2.2.2.2.2.2.2.1, x.2.2.2.2.2.2.2.2.1, x.2.2.2.2.2.2.2.2.2.1, ())) (T.opt (lget (List.take (3 : Nat) [x.2.2.2.1.2.1.1, x.2.2.2.1.2.1.2.1, x.2.2.2.1.2.1.2.2]) x.2.2.2.2.2.2.2.2.2.1) fun y_1 => T.ite (decide (W (y + if (1024 : Int) < y_1 then (1024 : Int) else y_1) ≥ (1024 : Int))) (T.opt (scene_broken ((4 : Int), W (x.2.2.1 + (1 : Int)))) fun y => T.ret (Ex.ret, y, x.2.1, x.2.2.1, x.2.2.2.1, x.2.2.2.2.1, x.2.2.2.2.2.1, x.2.2.2.2.2.2.1, x.2.2.2.2.2.2.2.1, x.2.2.2.2.2.2.2.2.1, x.2.2.2.2.2.2.2.2.2.1, ())) (T.ret (Ex.normal, x.1, x.2.1, x.2.2.1, x.2.2.2.1, x.2.2.2.2.1, x.2.2.2.2.2.1, x.2.2.2.2.2.2.1, x.2.2.2.2.2.2.2.1, x.2.2.2.2.2.2.2.2.1, W (x.2.2.2.2.2.2.2.2.2.1 + (1 : Int)), ())))) (T.ret (Ex.exit (2 : Nat), x.1, x.2.1, x.2.2.1, x.2.2.2.1, x.2.2.2.2.1, x.2.2.2.2.2.1, x.2.2.2.2.2.2.1, x.2.2.2.2.2.2.2.1, x.2.2.2.2.2.2.2.2.1, x.2.2.2.2.2.2.2.2.2.1, ()))
noncomputable def scene_mats.l2 (x : ErrD × (Int × Int) × Int × ((Int × Int × Int) × (Int × Int × Int) × Int) × (List ((Int × Int × Int) × (Int × Int × Int) × Int)) × Int × Int × (List (Int)) × Int × Int × Unit) : Option (Ex × ErrD × (Int × Int) × Int × ((Int × Int × Int) × (Int × Int × Int) × Int) × (List ((Int × Int × Int) × (Int × Int × Int) × Int)) × Int × Int × (List (Int)) × Int × Int × Unit) := (iterT scene_mats.t2 rounds x).run
theorem scene_mats.k2 : bodies 2 (lp Tryd.f47 [0]) = [.loop (loopIn 2 (lp Tryd.f47 [0]))] ∧ WP Tryd.prog 0 (.block 2 (.loop (loopIn 2 (lp Tryd.f47 [0])))) (loopS scene_mats.L2 70 2 [.exit 2, .ret] scene_mats.l2) :=
  loop_tree (L := scene_mats.L2) (F := ({ quiet := (ext (ext (ext (ext (ext Xs 83 scene_within.q) 77 scene_point.q) 82 scene_bound.q) 84 scene_broken.q) 103 scene_within_1.q), deep := noDeep } : Fns)) (D := D0) (tab := []) (t := scene_mats.t2) mixed (quiet_ext (quiet_ext (quiet_ext (quiet_ext (quiet_ext Xok scene_within.ok) scene_point.ok) scene_bound.ok) scene_broken.ok) scene_within_1.ok) (deep_none _) (fun _ => rfl) (by kernel_rfl) (by kernel_rfl) trivial (fun x => by kernel_rfl)
def scene_mats.L0 : List (Nat × Lay) := [(2, .val TE), (3, .val (.clo 103 (.pair (.ptr TI) (.ptr TI)))), (10, .val (.sl TMatD)), (11, .val TI), (12, .val TI)]
noncomputable def scene_mats.t0 (x : ErrD × (Int × Int) × (List ((Int × Int × Int) × (Int × Int × Int) × Int)) × Int × Int × Unit) : T (Ex × ErrD × (Int × Int) × (List ((Int × Int × Int) × (Int × Int × Int) × Int)) × Int × Int × Unit) := T.ite (decide (x.2.2.2.2.1 < x.2.2.2.1)) (T.opt (lget x.2.2.1 x.2.2.2.2.1) fun y => T.opt (scene_within_1 ([y.2.2], (1 : Int), (1024 : Int))) fun y_1 => T.ite (!y_1) (T.opt (scene_bound ((3 : Int), W (x.2.2.2.2.1 + (1 : Int)))) fun y => T.ret (Ex.ret, y, x.2.1, x.2.2.1, x.2.2.2.1, x.2.2.2.2.1, ())) (T.opt (scene_within_1 (List.take (3 : Nat) [y.1.1, y.1.2.1, y.1.2.2], x.2.1)) fun y_2 => T.ite (!y_2) (T.opt (scene_bound ((3 : Int), W (x.2.2.2.2.1 + (1 : Int)))) fun y => T.ret (Ex.ret, y, x.2.1, x.2.2.1, x.2.2.2.1, x.2.2.2.2.1, ())) (T.opt (scene_within_1 (List.take (3 : Nat) [y.2.1.1, y.2.1.2.1, y.2.1.2.2], x.2.1)) fun y_3 => T.ite (!y_3) (T.opt (scene_bound ((3 : Int), W (x.2.2.2.2.1 + (1 : Int)))) fun y => T.ret (Ex.ret, y, x.2.1, x.2.2.1, x.2.2.2.1, x.2.2.2.2.1, ())) (T.opt (scene_mats.l2 (x.1, x.2.1, x.2.2.2.2.1, y, x.2.2.1, x.2.2.2.1, x.2.2.2.2.1, List.take (3 : Nat) [y.1.1, y.1.2.1, y.1.2.2], (↑(List.take (3 : Nat) [y.1.1, y.1.2.1, y.1.2.2]).length : Int), (0 : Int), ())) fun y => T.ite (exEq y.1 (Ex.exit (2 : Nat))) (T.ret (Ex.normal, y.2.1, y.2.2.1, y.2.2.2.2.2.1, y.2.2.2.2.2.2.1, W (y.2.2.2.2.2.2.2.1 + (1 : Int)), ())) (T.ite (exEq y.1 Ex.ret) (T.ret (Ex.ret, y.2.1, y.2.2.1, y.2.2.2.2.2.1, y.2.2.2.2.2.2.1, y.2.2.2.2.2.2.2.1, ())) T.fail))))) (T.ret (Ex.exit (0 : Nat), x.1, x.2.1, x.2.2.1, x.2.2.2.1, x.2.2.2.2.1, ()))
noncomputable def scene_mats.l0 (x : ErrD × (Int × Int) × (List ((Int × Int × Int) × (Int × Int × Int) × Int)) × Int × Int × Unit) : Option (Ex × ErrD × (Int × Int) × (List ((Int × Int × Int) × (Int × Int × Int) × Int)) × Int × Int × Unit) := (iterT scene_mats.t0 rounds x).run
theorem scene_mats.k0 : bodies 0 (lp Tryd.f47 []) = [.loop (loopIn 0 (lp Tryd.f47 []))] ∧ WP Tryd.prog 0 (.block 0 (.loop (loopIn 0 (lp Tryd.f47 [])))) (loopS scene_mats.L0 70 0 [.exit 0, .ret] scene_mats.l0) :=
  loop_tree (L := scene_mats.L0) (F := ({ quiet := (ext (ext (ext (ext (ext Xs 83 scene_within.q) 77 scene_point.q) 82 scene_bound.q) 84 scene_broken.q) 103 scene_within_1.q), deep := noDeep } : Fns)) (D := D0) (tab := [(2, loopS scene_mats.L2 70 2 [.exit 2, .ret] scene_mats.l2)]) (t := scene_mats.t0) mixed (quiet_ext (quiet_ext (quiet_ext (quiet_ext (quiet_ext Xok scene_within.ok) scene_point.ok) scene_bound.ok) scene_broken.ok) scene_within_1.ok) (deep_none _) (fun _ => rfl) (by kernel_rfl) (by kernel_rfl) ⟨scene_mats.k2, trivial⟩ (fun x => by kernel_rfl)
noncomputable def scene_mats.t (x : ((List ((Int × Int × Int) × (Int × Int × Int) × Int)) × (List ((Int × Int × Int) × (Int × Int × Int) × (Int × Int × Int) × Int)) × (List (Int × Int × Int × Int)) × Int × (List (Int × Int × Int)) × ((Int × Int × Int) × (Int × Int × Int) × (Int × Int × Int) × Int × Int × Int) × Int × Int)) : T (ErrD) := T.opt (scene_mats.l0 (ErrD.nil, ((0 : Int), (9223372036854775807 : Int)), x.1, (↑(List.length x.1) : Int), (0 : Int), ())) fun y => T.ite (exEq y.1 (Ex.exit (0 : Nat))) (T.ret ErrD.nil) (T.ite (exEq y.1 Ex.ret) (T.ret y.2.1) T.fail)
noncomputable def scene_mats (x : ((List ((Int × Int × Int) × (Int × Int × Int) × Int)) × (List ((Int × Int × Int) × (Int × Int × Int) × (Int × Int × Int) × Int)) × (List (Int × Int × Int × Int)) × Int × (List (Int × Int × Int)) × ((Int × Int × Int) × (Int × Int × Int) × (Int × Int × Int) × Int × Int × Int) × Int × Int)) : Option (ErrD) := (scene_mats.t x).run
noncomputable def scene_mats.q : List AV → T AV := entry [TScn] (outR [TE]) fun x => .opt (scene_mats x) .ret
theorem scene_mats.ok : FnOK Tryd.prog 47 scene_mats.q :=
  entry_call (ps := [TScn]) (rs := [TE]) (F := ({ quiet := (ext (ext (ext (ext (ext Xs 83 scene_within.q) 77 scene_point.q) 82 scene_bound.q) 84 scene_broken.q) 103 scene_within_1.q), deep := noDeep } : Fns)) (D := D0) (S := tabS [(0, loopS scene_mats.L0 70 0 [.exit 0, .ret] scene_mats.l0)]) (t := scene_mats.t) mixed (quiet_ext (quiet_ext (quiet_ext (quiet_ext (quiet_ext Xok scene_within.ok) scene_point.ok) scene_bound.ok) scene_broken.ok) scene_within_1.ok) (deep_none _) Tryd.func47 (by kernel_rfl) (sok_fn ⟨scene_mats.k0, trivial⟩) (by kernel_rfl) (fun x => by kernel_rfl)
end Go.Proofs.Pen

namespace Go.Proofs.Pen
open Go Go.Proofs
noncomputable def scene_less.t (x : (Int × Int × Int) × (Int × Int × Int)) : T ((Int × Int × Int)) := T.ret (W (x.1.1 - x.2.1), W (x.1.2.1 - x.2.2.1), W (x.1.2.2 - x.2.2.2))
noncomputable def scene_less.q : List AV → T AV := entry [TP, TP] (outR [TP]) scene_less.t
theorem scene_less.ok : FnOK Tryd.prog 86 scene_less.q :=
  entry_in (ps := [TP, TP]) (rs := [TP]) (F := ({ quiet := Xs, deep := noDeep } : Fns)) (D := D0) (S := tabS []) (t := scene_less.t) mixed Xok (deep_none _) Tryd.func86 (by kernel_rfl) (sok_fn trivial) (by kernel_rfl) (fun x => by kernel_rfl)
end Go.Proofs.Pen

namespace Go.Proofs.Pen
open Go Go.Proofs
noncomputable def scene_flat.t (x : (Int × Int × Int) × (Int × Int × Int)) : T (Bool) := T.ret (W (W (x.1.2.1 * x.2.2.2) - W (x.1.2.2 * x.2.2.1)) == (0 : Int) && (W (W (x.1.2.2 * x.2.1) - W (x.1.1 * x.2.2.2)) == (0 : Int) && W (W (x.1.1 * x.2.2.1) - W (x.1.2.1 * x.2.1)) == (0 : Int)))
noncomputable def scene_flat.q : List AV → T AV := entry [TP, TP] (outR [.bool]) scene_flat.t
theorem scene_flat.ok : FnOK Tryd.prog 85 scene_flat.q :=
  entry_in (ps := [TP, TP]) (rs := [.bool]) (F := ({ quiet := Xs, deep := noDeep } : Fns)) (D := D0) (S := tabS []) (t := scene_flat.t) mixed Xok (deep_none _) Tryd.func85 (by kernel_rfl) (sok_fn trivial) (by kernel_rfl) (fun x => by kernel_rfl)
end Go.Proofs.Pen

namespace Go.Proofs.Pen
open Go Go.Proofs
def scene_tris.L0 : List (Nat × Lay) := [(1, .box TScn), (2, .val TE), (3, .val (.clo 103 (.pair (.ptr TI) (.ptr TI)))), (8, .val (.sl TTriD)), (9, .val TI), (10, .val TI)]
noncomputable def scene_tris.t0 (x : ((List ((Int × Int × Int) × (Int × Int × Int) × Int)) × (List ((Int × Int × Int) × (Int × Int × Int) × (Int × Int × Int) × Int)) × (List (Int × Int × Int × Int)) × Int × (List (Int × Int × Int)) × ((Int × Int × Int) × (Int × Int × Int) × (Int × Int × Int) × Int × Int × Int) × Int × Int) × ErrD × (Int × Int) × (List ((Int × Int × Int) × (Int × Int × Int) × (Int × Int × Int) × Int)) × Int × Int × Unit) : T (Ex × ((List ((Int × Int × Int) × (Int × Int × Int) × Int)) × (List ((Int × Int × Int) × (Int × Int × Int) × (Int × Int × Int) × Int)) × (List (Int × Int × Int × Int)) × Int × (List (Int × Int × Int)) × ((Int × Int × Int) × (Int × Int × Int) × (Int × Int × Int) × Int × Int × Int) × Int × Int) × ErrD × (Int × Int) × (List ((Int × Int × Int) × (Int × Int × Int) × (Int × Int × Int) × Int)) × Int × Int × Unit) := T.ite (decide (x.2.2.2.2.2.1 < x.2.2.2.2.1)) (T.opt (lget x.2.2.2.1 x.2.2.2.2.2.1) fun y => T.ite (decide (y.2.2.2 < (0 : Int)) || decide (y.2.2.2 ≥ (↑(List.length x.1.1) : Int))) (T.opt (scene_broken ((2 : Int), W (x.2.2.2.2.2.1 + (1 : Int)))) fun y => T.ret (Ex.ret, x.1, y, x.2.2.1, x.2.2.2.1, x.2.2.2.2.1, x.2.2.2.2.2.1, ())) (T.opt (scene_within_1 (List.take (3 : Nat) [y.1.1, y.1.2.1, y.1.2.2], x.2.2.1)) fun y_1 => T.ite (!y_1) (T.opt (scene_bound ((3 : Int), W (x.2.2.2.2.2.1 + (1 : Int)))) fun y => T.ret (Ex.ret, x.1, y, x.2.2.1, x.2.2.2.1, x.2.2.2.2.1, x.2.2.2.2.2.1, ())) (T.opt (scene_within_1 (List.take (3 : Nat) [y.2.1.1, y.2.1.2.1, y.2.1.2.2], x.2.2.1)) fun y_2 => T.ite (!y_2) (T.opt (scene_bound ((3 : Int), W (x.2.2.2.2.2.1 + (1 : Int)))) fun y => T.ret (Ex.ret, x.1, y, x.2.2.1, x.2.2.2.1, x.2.2.2.2.1, x.2.2.2.2.2.1, ())) (T.opt (scene_within_1 (List.take (3 : Nat) [y.2.2.1.1, y.2.2.1.2.1, y.2.2.1.2.2], x.2.2.1)) fun y_3 => T.ite (!y_3) (T.opt (scene_bound ((3 : Int), W (x.2.2.2.2.2.1 + (1 : Int)))) fun y => T.ret (Ex.ret, x.1, y, x.2.2.1, x.2.2.2.1, x.2.2.2.2.1, x.2.2.2.2.2.1, ())) (T.ite (W (W (W (y.2.1.2.1 - y.1.2.1) * W (y.2.2.1.2.2 - y.1.2.2)) - W (W (y.2.1.2.2 - y.1.2.2) * W (y.2.2.1.2.1 - y.1.2.1))) == (0 : Int) && (W (W (W (y.2.1.2.2 - y.1.2.2) * W (y.2.2.1.1 - y.1.1)) - W (W (y.2.1.1 - y.1.1) * W (y.2.2.1.2.2 - y.1.2.2))) == (0 : Int) && W (W (W (y.2.1.1 - y.1.1) * W (y.2.2.1.2.1 - y.1.2.1)) - W (W (y.2.1.2.1 - y.1.2.1) * W (y.2.2.1.1 - y.1.1))) == (0 : Int))) (T.opt (scene_broken ((13 : Int), W (x.2.2.2.2.2.1 + (1 : Int)))) fun y => T.ret (Ex.ret, x.1, y, x.2.2.1, x.2.2.2.1, x.2.2.2.2.1, x.2.2.2.2.2.1, ())) (T.ret (Ex.normal, x.1, x.2.1, x.2.2.1, x.2.2.2.1, x.2.2.2.2.1, W (x.2.2.2.2.2.1 + (1 : Int)), ()))))))) (T.ret (Ex.exit (0 : Nat), x.1, x.2.1, x.2.2.1, x.2.2.2.1, x.2.2.2.2.1, x.2.2.2.2.2.1, ()))
noncomputable def scene_tris.l0 (x : ((List ((Int × Int × Int) × (Int × Int × Int) × Int)) × (List ((Int × Int × Int) × (Int × Int × Int) × (Int × Int × Int) × Int)) × (List (Int × Int × Int × Int)) × Int × (List (Int × Int × Int)) × ((Int × Int × Int) × (Int × Int × Int) × (Int × Int × Int) × Int × Int × Int) × Int × Int) × ErrD × (Int × Int) × (List ((Int × Int × Int) × (Int × Int × Int) × (Int × Int × Int) × Int)) × Int × Int × Unit) : Option (Ex × ((List ((Int × Int × Int) × (Int × Int × Int) × Int)) × (List ((Int × Int × Int) × (Int × Int × Int) × (Int × Int × Int) × Int)) × (List (Int × Int × Int × Int)) × Int × (List (Int × Int × Int)) × ((Int × Int × Int) × (Int × Int × Int) × (Int × Int × Int) × Int × Int × Int) × Int × Int) × ErrD × (Int × Int) × (List ((Int × Int × Int) × (Int × Int × Int) × (Int × Int × Int) × Int)) × Int × Int × Unit) := (iterT scene_tris.t0 rounds x).run
theorem scene_tris.k0 : bodies 0 (lp Tryd.f48 []) = [.loop (loopIn 0 (lp Tryd.f48 []))] ∧ WP Tryd.prog 0 (.block 0 (.loop (loopIn 0 (lp Tryd.f48 [])))) (loopS scene_tris.L0 72 0 [.exit 0, .ret] scene_tris.l0) :=
  loop_tree (L := scene_tris.L0) (F := ({ quiet := (ext (ext (ext (ext (ext (ext (ext Xs 83 scene_within.q) 84 scene_broken.q) 77 scene_point.q) 82 scene_bound.q) 86 scene_less.q) 85 scene_flat.q) 103 scene_within_1.q), deep := noDeep } : Fns)) (D := D0) (tab := []) (t := scene_tris.t0) mixed (quiet_ext (quiet_ext (quiet_ext (quiet_ext (quiet_ext (quiet_ext (quiet_ext Xok scene_within.ok) scene_broken.ok) scene_point.ok) scene_bound.ok) scene_less.ok) scene_flat.ok) scene_within_1.ok) (deep_none _) (fun _ => rfl) (by kernel_rfl) (by kernel_rfl) trivial (fun x => by kernel_rfl)
noncomputable def scene_tris.t (x : ((List ((Int × Int × Int) × (Int × Int × Int) × Int)) × (List ((Int × Int × Int) × (Int × Int × Int) × (Int × Int × Int) × Int)) × (List (Int × Int × Int × Int)) × Int × (List (Int × Int × Int)) × ((Int × Int × Int) × (Int × Int × Int) × (Int × Int × Int) × Int × Int × Int) × Int × Int)) : T (ErrD) := T.opt (scene_tris.l0 (x, ErrD.nil, ((-1048576 : Int), (1048576 : Int)), x.2.1, (↑(List.length x.2.1) : Int), (0 : Int), ())) fun y => T.ite (exEq y.1 (Ex.exit (0 : Nat))) (T.ret ErrD.nil) (T.ite (exEq y.1 Ex.ret) (T.ret y.2.2.1) T.fail)
noncomputable def scene_tris (x : ((List ((Int × Int × Int) × (Int × Int × Int) × Int)) × (List ((Int × Int × Int) × (Int × Int × Int) × (Int × Int × Int) × Int)) × (List (Int × Int × Int × Int)) × Int × (List (Int × Int × Int)) × ((Int × Int × Int) × (Int × Int × Int) × (Int × Int × Int) × Int × Int × Int) × Int × Int)) : Option (ErrD) := (scene_tris.t x).run
noncomputable def scene_tris.q : List AV → T AV := entry [TScn] (outR [TE]) fun x => .opt (scene_tris x) .ret
theorem scene_tris.ok : FnOK Tryd.prog 48 scene_tris.q :=
  entry_call (ps := [TScn]) (rs := [TE]) (F := ({ quiet := (ext (ext (ext (ext (ext (ext (ext Xs 83 scene_within.q) 84 scene_broken.q) 77 scene_point.q) 82 scene_bound.q) 86 scene_less.q) 85 scene_flat.q) 103 scene_within_1.q), deep := noDeep } : Fns)) (D := D0) (S := tabS [(0, loopS scene_tris.L0 72 0 [.exit 0, .ret] scene_tris.l0)]) (t := scene_tris.t) mixed (quiet_ext (quiet_ext (quiet_ext (quiet_ext (quiet_ext (quiet_ext (quiet_ext Xok scene_within.ok) scene_broken.ok) scene_point.ok) scene_bound.ok) scene_less.ok) scene_flat.ok) scene_within_1.ok) (deep_none _) Tryd.func48 (by kernel_rfl) (sok_fn ⟨scene_tris.k0, trivial⟩) (by kernel_rfl) (fun x => by kernel_rfl)
end Go.Proofs.Pen

namespace Go.Proofs.Pen
open Go Go.Proofs
noncomputable def scene_lights_1.t (x : (Int × Int × Int × Int) × (Int × Int × Int × Int)) : T (Bool) := T.ret (x.2.1 == x.1.1)
noncomputable def scene_lights_1.q : List AV → T AV := entry [TLitD, (.ptr TLitD)] (outR [.bool]) scene_lights_1.t
theorem scene_lights_1.ok : FnOK Tryd.prog 87 scene_lights_1.q :=
  entry_in (ps := [TLitD, (.ptr TLitD)]) (rs := [.bool]) (F := ({ quiet := Xs, deep := noDeep } : Fns)) (D := D0) (S := tabS []) (t := scene_lights_1.t) mixed Xok (deep_none _) Tryd.func87 (by kernel_rfl) (sok_fn trivial) (by kernel_rfl) (fun x => by kernel_rfl)
end Go.Proofs.Pen

namespace Go.Proofs.Pen
open Go Go.Proofs
def IdxL.L0 : List (Nat × Lay) := [(0, .val (.sl TLitD)), (1, .val (.clo 87 (.ptr TLitD))), (4, .val TI), (7, .val TI), (8, .val TI)]
noncomputable def IdxL.t0 (x : (List (Int × Int × Int × Int)) × (Int × Int × Int × Int) × Int × Int × Int × Unit) : T (Ex × (List (Int × Int × Int × Int)) × (Int × Int × Int × Int) × Int × Int × Int × Unit) := T.ite (decide (x.2.2.2.2.1 < x.2.2.2.1)) (T.opt (lget x.1 x.2.2.2.2.1) fun y => T.ite (x.2.1.1 == y.1) (T.ret (Ex.ret, x.1, x.2.1, x.2.2.2.2.1, x.2.2.2.1, x.2.2.2.2.1, ())) (T.ret (Ex.normal, x.1, x.2.1, x.2.2.1, x.2.2.2.1, W (x.2.2.2.2.1 + (1 : Int)), ()))) (T.ret (Ex.exit (0 : Nat), x.1, x.2.1, x.2.2.1, x.2.2.2.1, x.2.2.2.2.1, ()))
noncomputable def IdxL.l0 (x : (List (Int × Int × Int × Int)) × (Int × Int × Int × Int) × Int × Int × Int × Unit) : Option (Ex × (List (Int × Int × Int × Int)) × (Int × Int × Int × Int) × Int × Int × Int × Unit) := (iterT IdxL.t0 rounds x).run
theorem IdxL.k0 : bodies 0 (lp Tryd.f102 []) = [.loop (loopIn 0 (lp Tryd.f102 []))] ∧ WP Tryd.prog 0 (.block 0 (.loop (loopIn 0 (lp Tryd.f102 [])))) (loopS IdxL.L0 19 0 [.exit 0, .ret] IdxL.l0) :=
  loop_tree (L := IdxL.L0) (F := ({ quiet := (ext Xs 87 scene_lights_1.q), deep := noDeep } : Fns)) (D := D0) (tab := []) (t := IdxL.t0) mixed (quiet_ext Xok scene_lights_1.ok) (deep_none _) (fun _ => rfl) (by kernel_rfl) (by kernel_rfl) trivial (fun x => by kernel_rfl)
noncomputable def IdxL.t (x : (List (Int × Int × Int × Int)) × (Int × Int × Int × Int)) : T (Int) := T.opt (IdxL.l0 (x.1, x.2, (0 : Int), (↑(List.length x.1) : Int), (0 : Int), ())) fun y => T.ite (exEq y.1 (Ex.exit (0 : Nat))) (T.ret (-1 : Int)) (T.ite (exEq y.1 Ex.ret) (T.ret y.2.2.2.1) T.fail)
noncomputable def IdxL (x : (List (Int × Int × Int × Int)) × (Int × Int × Int × Int)) : Option (Int) := (IdxL.t x).run
noncomputable def IdxL.q : List AV → T AV := entry [(.sl TLitD), (.clo 87 (.ptr TLitD))] (outR [TI]) fun x => .opt (IdxL x) .ret
theorem IdxL.ok : FnOK Tryd.prog 102 IdxL.q :=
  entry_call (ps := [(.sl TLitD), (.clo 87 (.ptr TLitD))]) (rs := [TI]) (F := ({ quiet := (ext Xs 87 scene_lights_1.q), deep := noDeep } : Fns)) (D := D0) (S := tabS [(0, loopS IdxL.L0 19 0 [.exit 0, .ret] IdxL.l0)]) (t := IdxL.t) mixed (quiet_ext Xok scene_lights_1.ok) (deep_none _) Tryd.func102 (by kernel_rfl) (sok_fn ⟨IdxL.k0, trivial⟩) (by kernel_rfl) (fun x => by kernel_rfl)
end Go.Proofs.Pen

namespace Go.Proofs.Pen
open Go Go.Proofs
noncomputable def ConL.t (x : (List (Int × Int × Int × Int)) × (Int × Int × Int × Int)) : T (Bool) := T.opt (IdxL x) fun y => T.ret (decide (y ≥ (0 : Int)))
noncomputable def ConL (x : (List (Int × Int × Int × Int)) × (Int × Int × Int × Int)) : Option (Bool) := (ConL.t x).run
noncomputable def ConL.q : List AV → T AV := entry [(.sl TLitD), (.clo 87 (.ptr TLitD))] (outR [.bool]) fun x => .opt (ConL x) .ret
theorem ConL.ok : FnOK Tryd.prog 79 ConL.q :=
  entry_call (ps := [(.sl TLitD), (.clo 87 (.ptr TLitD))]) (rs := [.bool]) (F := ({ quiet := (ext (ext Xs 102 IdxL.q) 87 scene_lights_1.q), deep := noDeep } : Fns)) (D := D0) (S := tabS []) (t := ConL.t) mixed (quiet_ext (quiet_ext Xok IdxL.ok) scene_lights_1.ok) (deep_none _) Tryd.func79 (by kernel_rfl) (sok_fn trivial) (by kernel_rfl) (fun x => by kernel_rfl)
end Go.Proofs.Pen

namespace Go.Proofs.Pen
open Go Go.Proofs
def scene_lights.L0 : List (Nat × Lay) := [(1, .box TScn), (2, .val TE), (3, .val (.clo 103 (.pair (.ptr TI) (.ptr TI)))), (11, .val (.sl TLitD)), (12, .val TI), (13, .val TI)]
noncomputable def scene_lights.t0 (x : ((List ((Int × Int × Int) × (Int × Int × Int) × Int)) × (List ((Int × Int × Int) × (Int × Int × Int) × (Int × Int × Int) × Int)) × (List (Int × Int × Int × Int)) × Int × (List (Int × Int × Int)) × ((Int × Int × Int) × (Int × Int × Int) × (Int × Int × Int) × Int × Int × Int) × Int × Int) × ErrD × (Int × Int) × (List (Int × Int × Int × Int)) × Int × Int × Unit) : T (Ex × ((List ((Int × Int × Int) × (Int × Int × Int) × Int)) × (List ((Int × Int × Int) × (Int × Int × Int) × (Int × Int × Int) × Int)) × (List (Int × Int × Int × Int)) × Int × (List (Int × Int × Int)) × ((Int × Int × Int) × (Int × Int × Int) × (Int × Int × Int) × Int × Int × Int) × Int × Int) × ErrD × (Int × Int) × (List (Int × Int × Int × Int)) × Int × Int × Unit) := T.ite (decide (x.2.2.2.2.2.1 < x.2.2.2.2.1)) (T.opt (lget x.2.2.2.1 x.2.2.2.2.2.1) fun y => T.ite (decide ((0 : Int) ≤ (0 : Int)) && decide ((0 : Int) ≤ x.2.2.2.2.2.1) && decide (x.2.2.2.2.2.1 ≤ (↑(List.length x.1.2.2.1) : Int))) (T.opt (ConL (List.take (Int.toNat x.2.2.2.2.2.1 - Int.toNat (0 : Int)) (List.drop (Int.toNat (0 : Int)) x.1.2.2.1), y)) fun y_1 => T.ite (decide (y.1 < (0 : Int)) || decide (y.1 ≥ (↑(List.length x.1.2.1) : Int)) || y_1) (T.opt (scene_broken ((2 : Int), W (x.2.2.2.2.2.1 + (1 : Int)))) fun y => T.ret (Ex.ret, x.1, y, x.2.2.1, x.2.2.2.1, x.2.2.2.2.1, x.2.2.2.2.2.1, ())) (T.opt (scene_within_1 (List.take (3 : Nat) [y.2.1, y.2.2.1, y.2.2.2], x.2.2.1)) fun y => T.ite (!y) (T.opt (scene_bound ((3 : Int), W (x.2.2.2.2.2.1 + (1 : Int)))) fun y => T.ret (Ex.ret, x.1, y, x.2.2.1, x.2.2.2.1, x.2.2.2.2.1, x.2.2.2.2.2.1, ())) (T.ret (Ex.normal, x.1, x.2.1, x.2.2.1, x.2.2.2.1, x.2.2.2.2.1, W (x.2.2.2.2.2.1 + (1 : Int)), ())))) T.fail) (T.ret (Ex.exit (0 : Nat), x.1, x.2.1, x.2.2.1, x.2.2.2.1, x.2.2.2.2.1, x.2.2.2.2.2.1, ()))
noncomputable def scene_lights.l0 (x : ((List ((Int × Int × Int) × (Int × Int × Int) × Int)) × (List ((Int × Int × Int) × (Int × Int × Int) × (Int × Int × Int) × Int)) × (List (Int × Int × Int × Int)) × Int × (List (Int × Int × Int)) × ((Int × Int × Int) × (Int × Int × Int) × (Int × Int × Int) × Int × Int × Int) × Int × Int) × ErrD × (Int × Int) × (List (Int × Int × Int × Int)) × Int × Int × Unit) : Option (Ex × ((List ((Int × Int × Int) × (Int × Int × Int) × Int)) × (List ((Int × Int × Int) × (Int × Int × Int) × (Int × Int × Int) × Int)) × (List (Int × Int × Int × Int)) × Int × (List (Int × Int × Int)) × ((Int × Int × Int) × (Int × Int × Int) × (Int × Int × Int) × Int × Int × Int) × Int × Int) × ErrD × (Int × Int) × (List (Int × Int × Int × Int)) × Int × Int × Unit) := (iterT scene_lights.t0 rounds x).run
theorem scene_lights.k0 : bodies 0 (lp Tryd.f49 []) = [.loop (loopIn 0 (lp Tryd.f49 []))] ∧ WP Tryd.prog 0 (.block 0 (.loop (loopIn 0 (lp Tryd.f49 [])))) (loopS scene_lights.L0 80 0 [.exit 0, .ret] scene_lights.l0) :=
  loop_tree (L := scene_lights.L0) (F := ({ quiet := (ext (ext (ext (ext (ext (ext (ext Xs 83 scene_within.q) 87 scene_lights_1.q) 79 ConL.q) 84 scene_broken.q) 77 scene_point.q) 82 scene_bound.q) 103 scene_within_1.q), deep := noDeep } : Fns)) (D := D0) (tab := []) (t := scene_lights.t0) mixed (quiet_ext (quiet_ext (quiet_ext (quiet_ext (quiet_ext (quiet_ext (quiet_ext Xok scene_within.ok) scene_lights_1.ok) ConL.ok) scene_broken.ok) scene_point.ok) scene_bound.ok) scene_within_1.ok) (deep_none _) (fun _ => rfl) (by kernel_rfl) (by kernel_rfl) trivial (fun x => by kernel_rfl)
def scene_lights.L2 : List (Nat × Lay) := [(2, .val TE), (3, .val (.clo 103 (.pair (.ptr TI) (.ptr TI)))), (64, .val (.sl TP)), (65, .val TI), (66, .val TI)]
noncomputable def scene_lights.t2 (x : ErrD × (Int × Int) × (List (Int × Int × Int)) × Int × Int × Unit) : T (Ex × ErrD × (Int × Int) × (List (Int × Int × Int)) × Int × Int × Unit) := T.ite (decide (x.2.2.2.2.1 < x.2.2.2.1)) (T.opt (lget x.2.2.1 x.2.2.2.2.1) fun y => T.opt (scene_within_1 (List.take (3 : Nat) [y.1, y.2.1, y.2.2], x.2.1)) fun y => T.ite (!y) (T.opt (scene_bound ((3 : Int), W (x.2.2.2.2.1 + (1 : Int)))) fun y => T.ret (Ex.ret, y, x.2.1, x.2.2.1, x.2.2.2.1, x.2.2.2.2.1, ())) (T.ret (Ex.normal, x.1, x.2.1, x.2.2.1, x.2.2.2.1, W (x.2.2.2.2.1 + (1 : Int)), ()))) (T.ret (Ex.exit (2 : Nat), x.1, x.2.1, x.2.2.1, x.2.2.2.1, x.2.2.2.2.1, ()))
noncomputable def scene_lights.l2 (x : ErrD × (Int × Int) × (List (Int × Int × Int)) × Int × Int × Unit) : Option (Ex × ErrD × (Int × Int) × (List (Int × Int × Int)) × Int × Int × Unit) := (iterT scene_lights.t2 rounds x).run
theorem scene_lights.k2 : bodies 2 (lp Tryd.f49 []) = [.loop (loopIn 2 (lp Tryd.f49 []))] ∧ WP Tryd.prog 0 (.block 2 (.loop (loopIn 2 (lp Tryd.f49 [])))) (loopS scene_lights.L2 80 2 [.exit 2, .ret] scene_lights.l2) :=
  loop_tree (L := scene_lights.L2) (F := ({ quiet := (ext (ext (ext (ext (ext (ext (ext Xs 83 scene_within.q) 87 scene_lights_1.q) 79 ConL.q) 84 scene_broken.q) 77 scene_point.q) 82 scene_bound.q) 103 scene_within_1.q), deep := noDeep } : Fns)) (D := D0) (tab := []) (t := scene_lights.t2) mixed (quiet_ext (quiet_ext (quiet_ext (quiet_ext (quiet_ext (quiet_ext (quiet_ext Xok scene_within.ok) scene_lights_1.ok) ConL.ok) scene_broken.ok) scene_point.ok) scene_bound.ok) scene_within_1.ok) (deep_none _) (fun _ => rfl) (by kernel_rfl) (by kernel_rfl) trivial (fun x => by kernel_rfl)
noncomputable def scene_lights.t (x : ((List ((Int × Int × Int) × (Int × Int × Int) × Int)) × (List ((Int × Int × Int) × (Int × Int × Int) × (Int × Int × Int) × Int)) × (List (Int × Int × Int × Int)) × Int × (List (Int × Int × Int)) × ((Int × Int × Int) × (Int × Int × Int) × (Int × Int × Int) × Int × Int × Int) × Int × Int)) : T (ErrD) := T.opt (scene_lights.l0 (x, ErrD.nil, ((0 : Int), (67108863 : Int)), x.2.2.1, (↑(List.length x.2.2.1) : Int), (0 : Int), ())) fun y => T.ite (exEq y.1 (Ex.exit (0 : Nat))) (T.ite (decide (y.2.1.2.2.2.1 < (0 : Int))) (T.opt (scene_bound ((3 : Int), (0 : Int))) fun y => T.ret y) (T.ite ((↑(List.length y.2.1.2.2.2.2.1) : Int) != W ((8 : Int) * y.2.1.2.2.2.1)) (T.opt (scene_broken ((14 : Int), (0 : Int))) fun y => T.ret y) (T.opt (scene_lights.l2 (y.2.2.1, y.2.2.2.1, y.2.1.2.2.2.2.1, (↑(List.length y.2.1.2.2.2.2.1) : Int), (0 : Int), ())) fun y => T.ite (exEq y.1 (Ex.exit (2 : Nat))) (T.ret ErrD.nil) (T.ite (exEq y.1 Ex.ret) (T.ret y.2.1) T.fail)))) (T.ite (exEq y.1 Ex.ret) (T.ret y.2.2.1) T.fail)
noncomputable def scene_lights (x : ((List ((Int × Int × Int) × (Int × Int × Int) × Int)) × (List ((Int × Int × Int) × (Int × Int × Int) × (Int × Int × Int) × Int)) × (List (Int × Int × Int × Int)) × Int × (List (Int × Int × Int)) × ((Int × Int × Int) × (Int × Int × Int) × (Int × Int × Int) × Int × Int × Int) × Int × Int)) : Option (ErrD) := (scene_lights.t x).run
noncomputable def scene_lights.q : List AV → T AV := entry [TScn] (outR [TE]) fun x => .opt (scene_lights x) .ret
theorem scene_lights.ok : FnOK Tryd.prog 49 scene_lights.q :=
  entry_call (ps := [TScn]) (rs := [TE]) (F := ({ quiet := (ext (ext (ext (ext (ext (ext (ext Xs 83 scene_within.q) 87 scene_lights_1.q) 79 ConL.q) 84 scene_broken.q) 77 scene_point.q) 82 scene_bound.q) 103 scene_within_1.q), deep := noDeep } : Fns)) (D := D0) (S := tabS [(0, loopS scene_lights.L0 80 0 [.exit 0, .ret] scene_lights.l0), (2, loopS scene_lights.L2 80 2 [.exit 2, .ret] scene_lights.l2)]) (t := scene_lights.t) mixed (quiet_ext (quiet_ext (quiet_ext (quiet_ext (quiet_ext (quiet_ext (quiet_ext Xok scene_within.ok) scene_lights_1.ok) ConL.ok) scene_broken.ok) scene_point.ok) scene_bound.ok) scene_within_1.ok) (deep_none _) Tryd.func49 (by kernel_rfl) (sok_fn ⟨scene_lights.k0, scene_lights.k2, trivial⟩) (by kernel_rfl) (fun x => by kernel_rfl)
end Go.Proofs.Pen

namespace Go.Proofs.Pen
open Go Go.Proofs
noncomputable def scene_camera.t (x : ((List ((Int × Int × Int) × (Int × Int × Int) × Int)) × (List ((Int × Int × Int) × (Int × Int × Int) × (Int × Int × Int) × Int)) × (List (Int × Int × Int × Int)) × Int × (List (Int × Int × Int)) × ((Int × Int × Int) × (Int × Int × Int) × (Int × Int × Int) × Int × Int × Int) × Int × Int)) : T (ErrD) := T.opt (scene_within_1 (List.take (3 : Nat) [x.2.2.2.2.2.1.1.1, x.2.2.2.2.2.1.1.2.1, x.2.2.2.2.2.1.1.2.2], (-1048576 : Int), (1048576 : Int))) fun y => T.ite (!y) (T.opt (scene_bound ((3 : Int), (0 : Int))) fun y => T.ret y) (T.opt (scene_within_1 (List.take (3 : Nat) [x.2.2.2.2.2.1.2.1.1, x.2.2.2.2.2.1.2.1.2.1, x.2.2.2.2.2.1.2.1.2.2], (-1048576 : Int), (1048576 : Int))) fun y => T.ite (!y) (T.opt (scene_bound ((3 : Int), (0 : Int))) fun y => T.ret y) (T.opt (scene_within_1 (List.take (3 : Nat) [x.2.2.2.2.2.1.2.2.1.1, x.2.2.2.2.2.1.2.2.1.2.1, x.2.2.2.2.2.1.2.2.1.2.2], (-1048576 : Int), (1048576 : Int))) fun y => T.ite (!y) (T.opt (scene_bound ((3 : Int), (0 : Int))) fun y => T.ret y) (T.opt (scene_within_1 (List.take (2 : Nat) [x.2.2.2.2.2.1.2.2.2.1, x.2.2.2.2.2.1.2.2.2.2.2], (1 : Int), (1048576 : Int))) fun y => T.ite (!y) (T.opt (scene_bound ((3 : Int), (0 : Int))) fun y => T.ret y) (T.opt (scene_within_1 ([x.2.2.2.2.2.1.2.2.2.2.1], (0 : Int), (1048576 : Int))) fun y => T.ite (!y) (T.opt (scene_bound ((3 : Int), (0 : Int))) fun y => T.ret y) (T.ite (W (W (W (x.2.2.2.2.2.1.2.1.2.1 - x.2.2.2.2.2.1.1.2.1) * x.2.2.2.2.2.1.2.2.1.2.2) - W (W (x.2.2.2.2.2.1.2.1.2.2 - x.2.2.2.2.2.1.1.2.2) * x.2.2.2.2.2.1.2.2.1.2.1)) == (0 : Int) && (W (W (W (x.2.2.2.2.2.1.2.1.2.2 - x.2.2.2.2.2.1.1.2.2) * x.2.2.2.2.2.1.2.2.1.1) - W (W (x.2.2.2.2.2.1.2.1.1 - x.2.2.2.2.2.1.1.1) * x.2.2.2.2.2.1.2.2.1.2.2)) == (0 : Int) && W (W (W (x.2.2.2.2.2.1.2.1.1 - x.2.2.2.2.2.1.1.1) * x.2.2.2.2.2.1.2.2.1.2.1) - W (W (x.2.2.2.2.2.1.2.1.2.1 - x.2.2.2.2.2.1.1.2.1) * x.2.2.2.2.2.1.2.2.1.1)) == (0 : Int))) (T.opt (scene_broken ((13 : Int), (0 : Int))) fun y => T.ret y) (T.ite (x.2.2.2.2.2.2.1 != (1 : Int) && x.2.2.2.2.2.2.1 != (2 : Int)) (T.opt (scene_broken ((2 : Int), (0 : Int))) fun y => T.ret y) (T.opt (scene_within_1 ([x.2.2.2.2.2.2.2], (1 : Int), (8192 : Int))) fun y => T.ite (!y) (T.opt (scene_bound ((3 : Int), (0 : Int))) fun y => T.ret y) (T.ret ErrD.nil))))))))
noncomputable def scene_camera (x : ((List ((Int × Int × Int) × (Int × Int × Int) × Int)) × (List ((Int × Int × Int) × (Int × Int × Int) × (Int × Int × Int) × Int)) × (List (Int × Int × Int × Int)) × Int × (List (Int × Int × Int)) × ((Int × Int × Int) × (Int × Int × Int) × (Int × Int × Int) × Int × Int × Int) × Int × Int)) : Option (ErrD) := (scene_camera.t x).run
noncomputable def scene_camera.q : List AV → T AV := entry [TScn] (outR [TE]) fun x => .opt (scene_camera x) .ret
theorem scene_camera.ok : FnOK Tryd.prog 50 scene_camera.q :=
  entry_call (ps := [TScn]) (rs := [TE]) (F := ({ quiet := (ext (ext (ext (ext (ext (ext (ext Xs 83 scene_within.q) 77 scene_point.q) 82 scene_bound.q) 86 scene_less.q) 85 scene_flat.q) 84 scene_broken.q) 103 scene_within_1.q), deep := noDeep } : Fns)) (D := D0) (S := tabS []) (t := scene_camera.t) mixed (quiet_ext (quiet_ext (quiet_ext (quiet_ext (quiet_ext (quiet_ext (quiet_ext Xok scene_within.ok) scene_point.ok) scene_bound.ok) scene_less.ok) scene_flat.ok) scene_broken.ok) scene_within_1.ok) (deep_none _) Tryd.func50 (by kernel_rfl) (sok_fn trivial) (by kernel_rfl) (fun x => by kernel_rfl)
end Go.Proofs.Pen

namespace Go.Proofs.Pen
open Go Go.Proofs
noncomputable def scene_Check.t (x : ((List ((Int × Int × Int) × (Int × Int × Int) × Int)) × (List ((Int × Int × Int) × (Int × Int × Int) × (Int × Int × Int) × Int)) × (List (Int × Int × Int × Int)) × Int × (List (Int × Int × Int)) × ((Int × Int × Int) × (Int × Int × Int) × (Int × Int × Int) × Int × Int × Int) × Int × Int)) : T (ErrD) := T.opt (scene_many x) fun y => T.ite (!y.isNil) (T.ret y) (T.opt (scene_mats x) fun y => T.ite (!y.isNil) (T.ret y) (T.opt (scene_tris x) fun y => T.ite (!y.isNil) (T.ret y) (T.opt (scene_lights x) fun y => T.ite (!y.isNil) (T.ret y) (T.opt (scene_camera x) fun y => T.ret y))))
noncomputable def scene_Check (x : ((List ((Int × Int × Int) × (Int × Int × Int) × Int)) × (List ((Int × Int × Int) × (Int × Int × Int) × (Int × Int × Int) × Int)) × (List (Int × Int × Int × Int)) × Int × (List (Int × Int × Int)) × ((Int × Int × Int) × (Int × Int × Int) × (Int × Int × Int) × Int × Int × Int) × Int × Int)) : Option (ErrD) := (scene_Check.t x).run
noncomputable def scene_Check.q : List AV → T AV := entry [TScn] (outR [TE]) fun x => .opt (scene_Check x) .ret
theorem scene_Check.ok : FnOK Tryd.prog 25 scene_Check.q :=
  entry_call (ps := [TScn]) (rs := [TE]) (F := ({ quiet := (ext (ext (ext (ext (ext (ext (ext Xs 46 scene_many.q) 47 scene_mats.q) 48 scene_tris.q) 49 scene_lights.q) 50 scene_camera.q) 87 scene_lights_1.q) 103 scene_within_1.q), deep := noDeep } : Fns)) (D := D0) (S := tabS []) (t := scene_Check.t) mixed (quiet_ext (quiet_ext (quiet_ext (quiet_ext (quiet_ext (quiet_ext (quiet_ext Xok scene_many.ok) scene_mats.ok) scene_tris.ok) scene_lights.ok) scene_camera.ok) scene_lights_1.ok) scene_within_1.ok) (deep_none _) Tryd.func25 (by kernel_rfl) (sok_fn trivial) (by kernel_rfl) (fun x => by kernel_rfl)
end Go.Proofs.Pen

namespace Go.Proofs.Pen
open Go Go.Proofs
noncomputable def build_panel.t (x : (Int × Int × Int)) : T (((List (Int × Int × Int)) × List (Int × Int × Int)) × Int) := T.ite (decide ((if x.2.1 < x.1 then x.2.1 else x.1) < (1 : Int)) || decide ((if x.2.1 > x.1 then x.2.1 else x.1) > (1048576 : Int))) (T.ret (([], []), (3 : Int))) (T.ret ((List.take (4 : Nat) [((0 : Int), (0 : Int), (0 : Int)), (x.1, (0 : Int), (0 : Int)), ((0 : Int), x.2.1, (0 : Int)), (x.1, x.2.1, (0 : Int))], List.take (2 : Nat) [((0 : Int), (1 : Int), (3 : Int)), ((0 : Int), (3 : Int), (2 : Int))]), (0 : Int)))
noncomputable def build_panel (x : (Int × Int × Int)) : Option (((List (Int × Int × Int)) × List (Int × Int × Int)) × Int) := (build_panel.t x).run
noncomputable def build_panel.q : List AV → T AV := entry [TP] (outR [(.st (.pair (.sl TP) (.sl TP))), TI]) fun x => .opt (build_panel x) .ret
theorem build_panel.ok : FnOK Tryd.prog 92 build_panel.q :=
  entry_call (ps := [TP]) (rs := [(.st (.pair (.sl TP) (.sl TP))), TI]) (F := ({ quiet := Xs, deep := noDeep } : Fns)) (D := D0) (S := tabS []) (t := build_panel.t) mixed Xok (deep_none _) Tryd.func92 (by kernel_rfl) (sok_fn trivial) (by kernel_rfl) (fun x => by kernel_rfl)
end Go.Proofs.Pen

namespace Go.Proofs.Pen
open Go Go.Proofs
noncomputable def mesh_within.t (x : (Int × Int × Int) × Int) : T (Bool) := T.ret (decide ((if x.1.2.2 < if x.1.2.1 < x.1.1 then x.1.2.1 else x.1.1 then x.1.2.2 else if x.1.2.1 < x.1.1 then x.1.2.1 else x.1.1) ≥ W ((0 : Int) - x.2)) && decide ((if x.1.2.2 > if x.1.2.1 > x.1.1 then x.1.2.1 else x.1.1 then x.1.2.2 else if x.1.2.1 > x.1.1 then x.1.2.1 else x.1.1) ≤ x.2))
noncomputable def mesh_within.q : List AV → T AV := entry [TP, TI] (outR [.bool]) mesh_within.t
theorem mesh_within.ok : FnOK Tryd.prog 105 mesh_within.q :=
  entry_in (ps := [TP, TI]) (rs := [.bool]) (F := ({ quiet := Xs, deep := noDeep } : Fns)) (D := D0) (S := tabS []) (t := mesh_within.t) mixed Xok (deep_none _) Tryd.func105 (by kernel_rfl) (sok_fn trivial) (by kernel_rfl) (fun x => by kernel_rfl)
end Go.Proofs.Pen

namespace Go.Proofs.Pen
open Go Go.Proofs
def mesh_Box.L0 : List (Nat × Lay) := [(1, .box TP), (2, .box (.st (.pair (.sl TP) (.sl TP)))), (4, .obx [.own TP, .own TP]), (20, .val TI)]
noncomputable def mesh_Box.t0 (x : (Int × Int × Int) × ((List (Int × Int × Int)) × List (Int × Int × Int)) × (List (Int × Int × Int) × List (Int × Int × Int) × Unit) × Int × Unit) : T (Ex × (Int × Int × Int) × ((List (Int × Int × Int)) × List (Int × Int × Int)) × (List (Int × Int × Int) × List (Int × Int × Int) × Unit) × Int × Unit) := T.ite (decide (x.2.2.2.1 < (8 : Int))) (T.ite (decide ((x.2.2.1.1.length + (1 : Nat)) * nat_lit 24 ≤ most)) (T.ret (Ex.normal, x.1, x.2.1, (List.take (x.2.2.1.1.length + (1 : Nat)) (List.take x.2.2.1.1.length x.2.2.1.1 ++ [(W (Int.tmod x.2.2.2.1 (2 : Int) * x.1.1), W ((W (Int.tdiv x.2.2.2.1 (2 : Int))).tmod (2 : Int) * x.1.2.1), W (W (Int.tdiv x.2.2.2.1 (4 : Int)) * x.1.2.2))]), List.take x.2.2.1.2.1.length x.2.2.1.2.1, ()), W (x.2.2.2.1 + (1 : Int)), ())) T.fail) (T.ret (Ex.exit (0 : Nat), x.1, x.2.1, (List.take x.2.2.1.1.length x.2.2.1.1, List.take x.2.2.1.2.1.length x.2.2.1.2.1, ()), x.2.2.2.1, ()))
noncomputable def mesh_Box.l0 (x : (Int × Int × Int) × ((List (Int × Int × Int)) × List (Int × Int × Int)) × (List (Int × Int × Int) × List (Int × Int × Int) × Unit) × Int × Unit) : Option (Ex × (Int × Int × Int) × ((List (Int × Int × Int)) × List (Int × Int × Int)) × (List (Int × Int × Int) × List (Int × Int × Int) × Unit) × Int × Unit) := (iterT mesh_Box.t0 rounds x).run
theorem mesh_Box.k0 : bodies 0 (lp Tryd.f93 []) = [.loop (loopIn 0 (lp Tryd.f93 []))] ∧ WP Tryd.prog 0 (.block 0 (.loop (loopIn 0 (lp Tryd.f93 [])))) (loopS mesh_Box.L0 61 0 [.exit 0] mesh_Box.l0) :=
  loop_tree (L := mesh_Box.L0) (F := ({ quiet := (ext Xs 105 mesh_within.q), deep := noDeep } : Fns)) (D := D0) (tab := []) (t := mesh_Box.t0) mixed (quiet_ext Xok mesh_within.ok) (deep_none _) (fun _ => rfl) (by kernel_rfl) (by kernel_rfl) trivial (fun x => by kernel_rfl)
noncomputable def mesh_Box.t (x : (Int × Int × Int)) : T (((List (Int × Int × Int)) × List (Int × Int × Int)) × Int) := T.ite (decide ((if x.2.2 < if x.2.1 < x.1 then x.2.1 else x.1 then x.2.2 else if x.2.1 < x.1 then x.2.1 else x.1) < (1 : Int))) (T.ret (([], []), (3 : Int))) (T.ite (!(decide ((if x.2.2 < if x.2.1 < x.1 then x.2.1 else x.1 then x.2.2 else if x.2.1 < x.1 then x.2.1 else x.1) ≥ W ((0 : Int) - (1048576 : Int))) && decide ((if x.2.2 > if x.2.1 > x.1 then x.2.1 else x.1 then x.2.2 else if x.2.1 > x.1 then x.2.1 else x.1) ≤ (1048576 : Int)))) (T.ret (([], []), (3 : Int))) (T.opt (mesh_Box.l0 (x, ([], []), ([], [], ()), (0 : Int), ())) fun y => T.ite (exEq y.1 (Ex.exit (0 : Nat))) (T.ret ((List.take y.2.2.2.1.1.length y.2.2.2.1.1, List.take (12 : Nat) [((0 : Int), (2 : Int), (1 : Int)), ((1 : Int), (2 : Int), (3 : Int)), ((4 : Int), (5 : Int), (6 : Int)), ((5 : Int), (7 : Int), (6 : Int)), ((0 : Int), (1 : Int), (4 : Int)), ((1 : Int), (5 : Int), (4 : Int)), ((2 : Int), (6 : Int), (3 : Int)), ((3 : Int), (6 : Int), (7 : Int)), ((0 : Int), (4 : Int), (2 : Int)), ((2 : Int), (4 : Int), (6 : Int)), ((1 : Int), (3 : Int), (5 : Int)), ((3 : Int), (7 : Int), (5 : Int))]), (0 : Int))) T.fail))
noncomputable def mesh_Box (x : (Int × Int × Int)) : Option (((List (Int × Int × Int)) × List (Int × Int × Int)) × Int) := (mesh_Box.t x).run
noncomputable def mesh_Box.q : List AV → T AV := entry [TP] (outR [(.st (.pair (.sl TP) (.sl TP))), TI]) fun x => .opt (mesh_Box x) .ret
theorem mesh_Box.ok : FnOK Tryd.prog 93 mesh_Box.q :=
  entry_call (ps := [TP]) (rs := [(.st (.pair (.sl TP) (.sl TP))), TI]) (F := ({ quiet := (ext Xs 105 mesh_within.q), deep := noDeep } : Fns)) (D := D0) (S := tabS [(0, loopS mesh_Box.L0 61 0 [.exit 0] mesh_Box.l0)]) (t := mesh_Box.t) mixed (quiet_ext Xok mesh_within.ok) (deep_none _) Tryd.func93 (by kernel_rfl) (sok_fn ⟨mesh_Box.k0, trivial⟩) (by kernel_rfl) (fun x => by kernel_rfl)
end Go.Proofs.Pen

namespace Go.Proofs.Pen
open Go Go.Proofs
def mesh_Turn.L0 : List (Nat × Lay) := [(2, .box (.st (.pair (.sl TP) (.sl TP)))), (3, .obx [.own TP, .own TP]), (11, .val (.sl TP)), (12, .val TI), (13, .val TI)]
noncomputable def mesh_Turn.t0 (x : ((List (Int × Int × Int)) × List (Int × Int × Int)) × (List (Int × Int × Int) × List (Int × Int × Int) × Unit) × (List (Int × Int × Int)) × Int × Int × Unit) : T (Ex × ((List (Int × Int × Int)) × List (Int × Int × Int)) × (List (Int × Int × Int) × List (Int × Int × Int) × Unit) × (List (Int × Int × Int)) × Int × Int × Unit) := T.ite (decide (x.2.2.2.2.1 < x.2.2.2.1)) (T.opt (lget x.2.2.1 x.2.2.2.2.1) fun y => T.ite (decide ((x.2.1.2.1.length + (1 : Nat)) * nat_lit 24 ≤ most)) (T.ret (Ex.normal, x.1, (List.take x.2.1.1.length x.2.1.1, List.take (x.2.1.2.1.length + (1 : Nat)) (List.take x.2.1.2.1.length x.2.1.2.1 ++ [(y.1, y.2.2, y.2.1)]), ()), x.2.2.1, x.2.2.2.1, W (x.2.2.2.2.1 + (1 : Int)), ())) T.fail) (T.ret (Ex.exit (0 : Nat), x.1, (List.take x.2.1.1.length x.2.1.1, List.take x.2.1.2.1.length x.2.1.2.1, ()), x.2.2.1, x.2.2.2.1, x.2.2.2.2.1, ()))
noncomputable def mesh_Turn.l0 (x : ((List (Int × Int × Int)) × List (Int × Int × Int)) × (List (Int × Int × Int) × List (Int × Int × Int) × Unit) × (List (Int × Int × Int)) × Int × Int × Unit) : Option (Ex × ((List (Int × Int × Int)) × List (Int × Int × Int)) × (List (Int × Int × Int) × List (Int × Int × Int) × Unit) × (List (Int × Int × Int)) × Int × Int × Unit) := (iterT mesh_Turn.t0 rounds x).run
theorem mesh_Turn.k0 : bodies 0 (lp Tryd.f94 []) = [.loop (loopIn 0 (lp Tryd.f94 []))] ∧ WP Tryd.prog 0 (.block 0 (.loop (loopIn 0 (lp Tryd.f94 [])))) (loopS mesh_Turn.L0 31 0 [.exit 0] mesh_Turn.l0) :=
  loop_tree (L := mesh_Turn.L0) (F := ({ quiet := Xs, deep := noDeep } : Fns)) (D := D0) (tab := []) (t := mesh_Turn.t0) mixed Xok (deep_none _) (fun _ => rfl) (by kernel_rfl) (by kernel_rfl) trivial (fun x => by kernel_rfl)
noncomputable def mesh_Turn.t (x : ((List (Int × Int × Int)) × List (Int × Int × Int))) : T (((List (Int × Int × Int)) × List (Int × Int × Int))) := T.ite (decide (List.length x.1 * nat_lit 24 ≤ most)) (T.opt (mesh_Turn.l0 (([], []), (List.take (List.length x.1) x.1, [], ()), x.2, (↑(List.length x.2) : Int), (0 : Int), ())) fun y => T.ite (exEq y.1 (Ex.exit (0 : Nat))) (T.ret (List.take y.2.2.1.1.length y.2.2.1.1, List.take y.2.2.1.2.1.length y.2.2.1.2.1)) T.fail) T.fail
noncomputable def mesh_Turn (x : ((List (Int × Int × Int)) × List (Int × Int × Int))) : Option (((List (Int × Int × Int)) × List (Int × Int × Int))) := (mesh_Turn.t x).run
noncomputable def mesh_Turn.q : List AV → T AV := entry [(.st (.pair (.sl TP) (.sl TP)))] (outR [(.st (.pair (.sl TP) (.sl TP)))]) fun x => .opt (mesh_Turn x) .ret
theorem mesh_Turn.ok : FnOK Tryd.prog 94 mesh_Turn.q :=
  entry_call (ps := [(.st (.pair (.sl TP) (.sl TP)))]) (rs := [(.st (.pair (.sl TP) (.sl TP)))]) (F := ({ quiet := Xs, deep := noDeep } : Fns)) (D := D0) (S := tabS [(0, loopS mesh_Turn.L0 31 0 [.exit 0] mesh_Turn.l0)]) (t := mesh_Turn.t) mixed Xok (deep_none _) Tryd.func94 (by kernel_rfl) (sok_fn ⟨mesh_Turn.k0, trivial⟩) (by kernel_rfl) (fun x => by kernel_rfl)
end Go.Proofs.Pen

namespace Go.Proofs.Pen
open Go Go.Proofs
noncomputable def build_shape.t (x : Int × (Int × Int × Int)) : T (((List (Int × Int × Int)) × List (Int × Int × Int)) × Int) := T.ite (x.1 == (3 : Int)) (T.opt (build_panel x.2) fun y => T.ret y) (T.ite (x.1 == (2 : Int)) (T.opt (mesh_Box x.2) fun y => T.ite (y.2 == (0 : Int)) (T.opt (mesh_Turn y.1) fun y_1 => T.ret (y_1, y.2)) (T.ret y)) (T.ite (x.1 == (1 : Int)) (T.opt (mesh_Box x.2) fun y => T.ret y) (T.ret (([], []), (2 : Int)))))
noncomputable def build_shape (x : Int × (Int × Int × Int)) : Option (((List (Int × Int × Int)) × List (Int × Int × Int)) × Int) := (build_shape.t x).run
noncomputable def build_shape.q : List AV → T AV := entry [TI, TP] (outR [(.st (.pair (.sl TP) (.sl TP))), TI]) fun x => .opt (build_shape x) .ret
theorem build_shape.ok : FnOK Tryd.prog 58 build_shape.q :=
  entry_call (ps := [TI, TP]) (rs := [(.st (.pair (.sl TP) (.sl TP))), TI]) (F := ({ quiet := (ext (ext (ext Xs 92 build_panel.q) 93 mesh_Box.q) 94 mesh_Turn.q), deep := noDeep } : Fns)) (D := D0) (S := tabS []) (t := build_shape.t) mixed (quiet_ext (quiet_ext (quiet_ext Xok build_panel.ok) mesh_Box.ok) mesh_Turn.ok) (deep_none _) Tryd.func58 (by kernel_rfl) (sok_fn trivial) (by kernel_rfl) (fun x => by kernel_rfl)
end Go.Proofs.Pen

namespace Go.Proofs.Pen
open Go Go.Proofs
noncomputable def mesh_places.t (x : ((List (Int × Int × Int)) × List (Int × Int × Int)) × (Int × Int × Int)) : T (Bool) := T.ite (decide ((if x.2.2.2 < if x.2.2.1 < x.2.1 then x.2.2.1 else x.2.1 then x.2.2.2 else if x.2.2.1 < x.2.1 then x.2.2.1 else x.2.1) ≥ (0 : Int))) (T.ite (decide ((if x.2.2.2 > if x.2.2.1 > x.2.1 then x.2.2.1 else x.2.1 then x.2.2.2 else if x.2.2.1 > x.2.1 then x.2.2.1 else x.2.1) < (↑(List.length x.1.1) : Int))) (T.ite (x.2.1 != x.2.2.1) (T.ite (x.2.2.1 != x.2.2.2) (T.ret (x.2.2.2 != x.2.1)) (T.ret false)) (T.ret false)) (T.ret false)) (T.ret false)
noncomputable def mesh_places (x : ((List (Int × Int × Int)) × List (Int × Int × Int)) × (Int × Int × Int)) : Option (Bool) := (mesh_places.t x).run
noncomputable def mesh_places.q : List AV → T AV := entry [(.st (.pair (.sl TP) (.sl TP))), TP] (outR [.bool]) fun x => .opt (mesh_places x) .ret
theorem mesh_places.ok : FnOK Tryd.prog 106 mesh_places.q :=
  entry_call (ps := [(.st (.pair (.sl TP) (.sl TP))), TP]) (rs := [.bool]) (F := ({ quiet := Xs, deep := noDeep } : Fns)) (D := D0) (S := tabS []) (t := mesh_places.t) mixed Xok (deep_none _) Tryd.func106 (by kernel_rfl) (sok_fn trivial) (by kernel_rfl) (fun x => by kernel_rfl)
end Go.Proofs.Pen

namespace Go.Proofs.Pen
open Go Go.Proofs
noncomputable def mesh_corners.t (x : ((List (Int × Int × Int)) × List (Int × Int × Int)) × (Int × Int × Int)) : T (((Int × Int × Int) × (Int × Int × Int) × Int × Int × Int)) := T.opt (lget x.1.1 x.2.1) fun y => T.opt (lget x.1.1 x.2.2.1) fun y_1 => T.opt (lget x.1.1 x.2.2.2) fun y_2 => T.ret (y, y_1, y_2)
noncomputable def mesh_corners (x : ((List (Int × Int × Int)) × List (Int × Int × Int)) × (Int × Int × Int)) : Option (((Int × Int × Int) × (Int × Int × Int) × Int × Int × Int)) := (mesh_corners.t x).run
noncomputable def mesh_corners.q : List AV → T AV := entry [(.st (.pair (.sl TP) (.sl TP))), TP] (outR [(.st (.pair TP (.pair TP TP)))]) fun x => .opt (mesh_corners x) .ret
theorem mesh_corners.ok : FnOK Tryd.prog 98 mesh_corners.q :=
  entry_call (ps := [(.st (.pair (.sl TP) (.sl TP))), TP]) (rs := [(.st (.pair TP (.pair TP TP)))]) (F := ({ quiet := Xs, deep := noDeep } : Fns)) (D := D0) (S := tabS []) (t := mesh_corners.t) mixed Xok (deep_none _) Tryd.func98 (by kernel_rfl) (sok_fn trivial) (by kernel_rfl) (fun x => by kernel_rfl)
end Go.Proofs.Pen

namespace Go.Proofs.Pen
open Go Go.Proofs
noncomputable def mesh_less.t (x : (Int × Int × Int) × (Int × Int × Int)) : T ((Int × Int × Int)) := T.ret (W (x.1.1 - x.2.1), W (x.1.2.1 - x.2.2.1), W (x.1.2.2 - x.2.2.2))
noncomputable def mesh_less.q : List AV → T AV := entry [TP, TP] (outR [TP]) mesh_less.t
theorem mesh_less.ok : FnOK Tryd.prog 111 mesh_less.q :=
  entry_in (ps := [TP, TP]) (rs := [TP]) (F := ({ quiet := Xs, deep := noDeep } : Fns)) (D := D0) (S := tabS []) (t := mesh_less.t) mixed Xok (deep_none _) Tryd.func111 (by kernel_rfl) (sok_fn trivial) (by kernel_rfl) (fun x => by kernel_rfl)
end Go.Proofs.Pen

namespace Go.Proofs.Pen
open Go Go.Proofs
noncomputable def mesh_cross.t (x : (Int × Int × Int) × (Int × Int × Int)) : T ((Int × Int × Int)) := T.ret (W (W (x.1.2.1 * x.2.2.2) - W (x.1.2.2 * x.2.2.1)), W (W (x.1.2.2 * x.2.1) - W (x.1.1 * x.2.2.2)), W (W (x.1.1 * x.2.2.1) - W (x.1.2.1 * x.2.1)))
noncomputable def mesh_cross.q : List AV → T AV := entry [TP, TP] (outR [TP]) mesh_cross.t
theorem mesh_cross.ok : FnOK Tryd.prog 110 mesh_cross.q :=
  entry_in (ps := [TP, TP]) (rs := [TP]) (F := ({ quiet := Xs, deep := noDeep } : Fns)) (D := D0) (S := tabS []) (t := mesh_cross.t) mixed Xok (deep_none _) Tryd.func110 (by kernel_rfl) (sok_fn trivial) (by kernel_rfl) (fun x => by kernel_rfl)
end Go.Proofs.Pen

namespace Go.Proofs.Pen
open Go Go.Proofs
noncomputable def mesh_flat.t (x : ((List (Int × Int × Int)) × List (Int × Int × Int)) × (Int × Int × Int)) : T (Bool) := T.opt (mesh_corners x) fun y => T.ret (W (W (W (y.2.1.2.1 - y.1.2.1) * W (y.2.2.2.2 - y.1.2.2)) - W (W (y.2.1.2.2 - y.1.2.2) * W (y.2.2.2.1 - y.1.2.1))) == (0 : Int) && (W (W (W (y.2.1.2.2 - y.1.2.2) * W (y.2.2.1 - y.1.1)) - W (W (y.2.1.1 - y.1.1) * W (y.2.2.2.2 - y.1.2.2))) == (0 : Int) && W (W (W (y.2.1.1 - y.1.1) * W (y.2.2.2.1 - y.1.2.1)) - W (W (y.2.1.2.1 - y.1.2.1) * W (y.2.2.1 - y.1.1))) == (0 : Int)))
noncomputable def mesh_flat (x : ((List (Int × Int × Int)) × List (Int × Int × Int)) × (Int × Int × Int)) : Option (Bool) := (mesh_flat.t x).run
noncomputable def mesh_flat.q : List AV → T AV := entry [(.st (.pair (.sl TP) (.sl TP))), TP] (outR [.bool]) fun x => .opt (mesh_flat x) .ret
theorem mesh_flat.ok : FnOK Tryd.prog 107 mesh_flat.q :=
  entry_call (ps := [(.st (.pair (.sl TP) (.sl TP))), TP]) (rs := [.bool]) (F := ({ quiet := (ext (ext (ext Xs 98 mesh_corners.q) 111 mesh_less.q) 110 mesh_cross.q), deep := noDeep } : Fns)) (D := D0) (S := tabS []) (t := mesh_flat.t) mixed (quiet_ext (quiet_ext (quiet_ext Xok mesh_corners.ok) mesh_less.ok) mesh_cross.ok) (deep_none _) Tryd.func107 (by kernel_rfl) (sok_fn trivial) (by kernel_rfl) (fun x => by kernel_rfl)
end Go.Proofs.Pen

namespace Go.Proofs.Pen
open Go Go.Proofs
def mesh_Check.L0 : List (Nat × Lay) := [(1, .box (.st (.pair (.sl TP) (.sl TP)))), (2, .val TI), (20, .val (.sl TP)), (21, .val TI), (22, .val TI)]
noncomputable def mesh_Check.t0 (x : ((List (Int × Int × Int)) × List (Int × Int × Int)) × Int × (List (Int × Int × Int)) × Int × Int × Unit) : T (Ex × ((List (Int × Int × Int)) × List (Int × Int × Int)) × Int × (List (Int × Int × Int)) × Int × Int × Unit) := T.ite (decide (x.2.2.2.2.1 < x.2.2.2.1)) (T.opt (lget x.2.2.1 x.2.2.2.2.1) fun y => T.ite (!(decide ((if y.2.2 < if y.2.1 < y.1 then y.2.1 else y.1 then y.2.2 else if y.2.1 < y.1 then y.2.1 else y.1) ≥ W ((0 : Int) - (1048576 : Int))) && decide ((if y.2.2 > if y.2.1 > y.1 then y.2.1 else y.1 then y.2.2 else if y.2.1 > y.1 then y.2.1 else y.1) ≤ (1048576 : Int)))) (T.ret (Ex.ret, x.1, (3 : Int), x.2.2.1, x.2.2.2.1, x.2.2.2.2.1, ())) (T.ret (Ex.normal, x.1, x.2.1, x.2.2.1, x.2.2.2.1, W (x.2.2.2.2.1 + (1 : Int)), ()))) (T.ret (Ex.exit (0 : Nat), x.1, x.2.1, x.2.2.1, x.2.2.2.1, x.2.2.2.2.1, ()))
noncomputable def mesh_Check.l0 (x : ((List (Int × Int × Int)) × List (Int × Int × Int)) × Int × (List (Int × Int × Int)) × Int × Int × Unit) : Option (Ex × ((List (Int × Int × Int)) × List (Int × Int × Int)) × Int × (List (Int × Int × Int)) × Int × Int × Unit) := (iterT mesh_Check.t0 rounds x).run
theorem mesh_Check.k0 : bodies 0 (lp Tryd.f95 []) = [.loop (loopIn 0 (lp Tryd.f95 []))] ∧ WP Tryd.prog 0 (.block 0 (.loop (loopIn 0 (lp Tryd.f95 [])))) (loopS mesh_Check.L0 53 0 [.exit 0, .ret] mesh_Check.l0) :=
  loop_tree (L := mesh_Check.L0) (F := ({ quiet := (ext (ext (ext Xs 105 mesh_within.q) 106 mesh_places.q) 107 mesh_flat.q), deep := noDeep } : Fns)) (D := D0) (tab := []) (t := mesh_Check.t0) mixed (quiet_ext (quiet_ext (quiet_ext Xok mesh_within.ok) mesh_places.ok) mesh_flat.ok) (deep_none _) (fun _ => rfl) (by kernel_rfl) (by kernel_rfl) trivial (fun x => by kernel_rfl)
def mesh_Check.L2 : List (Nat × Lay) := [(1, .box (.st (.pair (.sl TP) (.sl TP)))), (2, .val TI), (31, .val (.sl TP)), (32, .val TI), (33, .val TI)]
noncomputable def mesh_Check.t2 (x : ((List (Int × Int × Int)) × List (Int × Int × Int)) × Int × (List (Int × Int × Int)) × Int × Int × Unit) : T (Ex × ((List (Int × Int × Int)) × List (Int × Int × Int)) × Int × (List (Int × Int × Int)) × Int × Int × Unit) := T.ite (decide (x.2.2.2.2.1 < x.2.2.2.1)) (T.opt (lget x.2.2.1 x.2.2.2.2.1) fun y => T.opt (mesh_places (x.1, y)) fun y => T.ite (!y) (T.ret (Ex.ret, x.1, (2 : Int), x.2.2.1, x.2.2.2.1, x.2.2.2.2.1, ())) (T.ret (Ex.normal, x.1, x.2.1, x.2.2.1, x.2.2.2.1, W (x.2.2.2.2.1 + (1 : Int)), ()))) (T.ret (Ex.exit (2 : Nat), x.1, x.2.1, x.2.2.1, x.2.2.2.1, x.2.2.2.2.1, ()))
noncomputable def mesh_Check.l2 (x : ((List (Int × Int × Int)) × List (Int × Int × Int)) × Int × (List (Int × Int × Int)) × Int × Int × Unit) : Option (Ex × ((List (Int × Int × Int)) × List (Int × Int × Int)) × Int × (List (Int × Int × Int)) × Int × Int × Unit) := (iterT mesh_Check.t2 rounds x).run
theorem mesh_Check.k2 : bodies 2 (lp Tryd.f95 []) = [.loop (loopIn 2 (lp Tryd.f95 []))] ∧ WP Tryd.prog 0 (.block 2 (.loop (loopIn 2 (lp Tryd.f95 [])))) (loopS mesh_Check.L2 53 2 [.exit 2, .ret] mesh_Check.l2) :=
  loop_tree (L := mesh_Check.L2) (F := ({ quiet := (ext (ext (ext Xs 105 mesh_within.q) 106 mesh_places.q) 107 mesh_flat.q), deep := noDeep } : Fns)) (D := D0) (tab := []) (t := mesh_Check.t2) mixed (quiet_ext (quiet_ext (quiet_ext Xok mesh_within.ok) mesh_places.ok) mesh_flat.ok) (deep_none _) (fun _ => rfl) (by kernel_rfl) (by kernel_rfl) trivial (fun x => by kernel_rfl)
def mesh_Check.L4 : List (Nat × Lay) := [(1, .box (.st (.pair (.sl TP) (.sl TP)))), (2, .val TI), (43, .val (.sl TP)), (44, .val TI), (45, .val TI)]
noncomputable def mesh_Check.t4 (x : ((List (Int × Int × Int)) × List (Int × Int × Int)) × Int × (List (Int × Int × Int)) × Int × Int × Unit) : T (Ex × ((List (Int × Int × Int)) × List (Int × Int × Int)) × Int × (List (Int × Int × Int)) × Int × Int × Unit) := T.ite (decide (x.2.2.2.2.1 < x.2.2.2.1)) (T.opt (lget x.2.2.1 x.2.2.2.2.1) fun y => T.opt (mesh_flat (x.1, y)) fun y => T.ite y (T.ret (Ex.ret, x.1, (13 : Int), x.2.2.1, x.2.2.2.1, x.2.2.2.2.1, ())) (T.ret (Ex.normal, x.1, x.2.1, x.2.2.1, x.2.2.2.1, W (x.2.2.2.2.1 + (1 : Int)), ()))) (T.ret (Ex.exit (4 : Nat), x.1, x.2.1, x.2.2.1, x.2.2.2.1, x.2.2.2.2.1, ()))
noncomputable def mesh_Check.l4 (x : ((List (Int × Int × Int)) × List (Int × Int × Int)) × Int × (List (Int × Int × Int)) × Int × Int × Unit) : Option (Ex × ((List (Int × Int × Int)) × List (Int × Int × Int)) × Int × (List (Int × Int × Int)) × Int × Int × Unit) := (iterT mesh_Check.t4 rounds x).run
theorem mesh_Check.k4 : bodies 4 (lp Tryd.f95 []) = [.loop (loopIn 4 (lp Tryd.f95 []))] ∧ WP Tryd.prog 0 (.block 4 (.loop (loopIn 4 (lp Tryd.f95 [])))) (loopS mesh_Check.L4 53 4 [.exit 4, .ret] mesh_Check.l4) :=
  loop_tree (L := mesh_Check.L4) (F := ({ quiet := (ext (ext (ext Xs 105 mesh_within.q) 106 mesh_places.q) 107 mesh_flat.q), deep := noDeep } : Fns)) (D := D0) (tab := []) (t := mesh_Check.t4) mixed (quiet_ext (quiet_ext (quiet_ext Xok mesh_within.ok) mesh_places.ok) mesh_flat.ok) (deep_none _) (fun _ => rfl) (by kernel_rfl) (by kernel_rfl) trivial (fun x => by kernel_rfl)
noncomputable def mesh_Check.t (x : ((List (Int × Int × Int)) × List (Int × Int × Int))) : T (Int) := T.ite (decide ((↑(List.length x.2) : Int) > (512 : Int)) || decide ((↑(List.length x.1) : Int) > (1024 : Int))) (T.ret (4 : Int)) (T.opt (mesh_Check.l0 (x, (0 : Int), x.1, (↑(List.length x.1) : Int), (0 : Int), ())) fun y => T.ite (exEq y.1 (Ex.exit (0 : Nat))) (T.opt (mesh_Check.l2 (y.2.1, y.2.2.1, y.2.1.2, (↑(List.length y.2.1.2) : Int), (0 : Int), ())) fun y => T.ite (exEq y.1 (Ex.exit (2 : Nat))) (T.opt (mesh_Check.l4 (y.2.1, y.2.2.1, y.2.1.2, (↑(List.length y.2.1.2) : Int), (0 : Int), ())) fun y => T.ite (exEq y.1 (Ex.exit (4 : Nat))) (T.ret (0 : Int)) (T.ite (exEq y.1 Ex.ret) (T.ret y.2.2.1) T.fail)) (T.ite (exEq y.1 Ex.ret) (T.ret y.2.2.1) T.fail)) (T.ite (exEq y.1 Ex.ret) (T.ret y.2.2.1) T.fail))
noncomputable def mesh_Check (x : ((List (Int × Int × Int)) × List (Int × Int × Int))) : Option (Int) := (mesh_Check.t x).run
noncomputable def mesh_Check.q : List AV → T AV := entry [(.st (.pair (.sl TP) (.sl TP)))] (outR [TI]) fun x => .opt (mesh_Check x) .ret
theorem mesh_Check.ok : FnOK Tryd.prog 95 mesh_Check.q :=
  entry_call (ps := [(.st (.pair (.sl TP) (.sl TP)))]) (rs := [TI]) (F := ({ quiet := (ext (ext (ext Xs 105 mesh_within.q) 106 mesh_places.q) 107 mesh_flat.q), deep := noDeep } : Fns)) (D := D0) (S := tabS [(0, loopS mesh_Check.L0 53 0 [.exit 0, .ret] mesh_Check.l0), (2, loopS mesh_Check.L2 53 2 [.exit 2, .ret] mesh_Check.l2), (4, loopS mesh_Check.L4 53 4 [.exit 4, .ret] mesh_Check.l4)]) (t := mesh_Check.t) mixed (quiet_ext (quiet_ext (quiet_ext Xok mesh_within.ok) mesh_places.ok) mesh_flat.ok) (deep_none _) Tryd.func95 (by kernel_rfl) (sok_fn ⟨mesh_Check.k0, mesh_Check.k2, mesh_Check.k4, trivial⟩) (by kernel_rfl) (fun x => by kernel_rfl)
end Go.Proofs.Pen

namespace Go.Proofs.Pen
open Go Go.Proofs
noncomputable def xform_within.t (x : (Int × Int × Int) × Int) : T (Bool) := T.ret (decide ((if x.1.2.2 < if x.1.2.1 < x.1.1 then x.1.2.1 else x.1.1 then x.1.2.2 else if x.1.2.1 < x.1.1 then x.1.2.1 else x.1.1) ≥ W ((0 : Int) - x.2)) && decide ((if x.1.2.2 > if x.1.2.1 > x.1.1 then x.1.2.1 else x.1.1 then x.1.2.2 else if x.1.2.1 > x.1.1 then x.1.2.1 else x.1.1) ≤ x.2))
noncomputable def xform_within.q : List AV → T AV := entry [TP, TI] (outR [.bool]) xform_within.t
theorem xform_within.ok : FnOK Tryd.prog 108 xform_within.q :=
  entry_in (ps := [TP, TI]) (rs := [.bool]) (F := ({ quiet := Xs, deep := noDeep } : Fns)) (D := D0) (S := tabS []) (t := xform_within.t) mixed Xok (deep_none _) Tryd.func108 (by kernel_rfl) (sok_fn trivial) (by kernel_rfl) (fun x => by kernel_rfl)
end Go.Proofs.Pen

namespace Go.Proofs.Pen
open Go Go.Proofs
noncomputable def xform_Check.t (x : ((Int × Int × Int) × (Int × Int × Int) × (Int × Int × Int) × Int × Int × Int)) : T (Int) := T.ite (!(decide ((if x.1.2.2 < if x.1.2.1 < x.1.1 then x.1.2.1 else x.1.1 then x.1.2.2 else if x.1.2.1 < x.1.1 then x.1.2.1 else x.1.1) ≥ W ((0 : Int) - (4096 : Int))) && decide ((if x.1.2.2 > if x.1.2.1 > x.1.1 then x.1.2.1 else x.1.1 then x.1.2.2 else if x.1.2.1 > x.1.1 then x.1.2.1 else x.1.1) ≤ (4096 : Int)))) (T.ret (3 : Int)) (T.ite (!(decide ((if x.2.1.2.2 < if x.2.1.2.1 < x.2.1.1 then x.2.1.2.1 else x.2.1.1 then x.2.1.2.2 else if x.2.1.2.1 < x.2.1.1 then x.2.1.2.1 else x.2.1.1) ≥ W ((0 : Int) - (4096 : Int))) && decide ((if x.2.1.2.2 > if x.2.1.2.1 > x.2.1.1 then x.2.1.2.1 else x.2.1.1 then x.2.1.2.2 else if x.2.1.2.1 > x.2.1.1 then x.2.1.2.1 else x.2.1.1) ≤ (4096 : Int)))) (T.ret (3 : Int)) (T.ite (!(decide ((if x.2.2.1.2.2 < if x.2.2.1.2.1 < x.2.2.1.1 then x.2.2.1.2.1 else x.2.2.1.1 then x.2.2.1.2.2 else if x.2.2.1.2.1 < x.2.2.1.1 then x.2.2.1.2.1 else x.2.2.1.1) ≥ W ((0 : Int) - (4096 : Int))) && decide ((if x.2.2.1.2.2 > if x.2.2.1.2.1 > x.2.2.1.1 then x.2.2.1.2.1 else x.2.2.1.1 then x.2.2.1.2.2 else if x.2.2.1.2.1 > x.2.2.1.1 then x.2.2.1.2.1 else x.2.2.1.1) ≤ (4096 : Int)))) (T.ret (3 : Int)) (T.ite (!(decide ((if x.2.2.2.2.2 < if x.2.2.2.2.1 < x.2.2.2.1 then x.2.2.2.2.1 else x.2.2.2.1 then x.2.2.2.2.2 else if x.2.2.2.2.1 < x.2.2.2.1 then x.2.2.2.2.1 else x.2.2.2.1) ≥ W ((0 : Int) - (1048576 : Int))) && decide ((if x.2.2.2.2.2 > if x.2.2.2.2.1 > x.2.2.2.1 then x.2.2.2.2.1 else x.2.2.2.1 then x.2.2.2.2.2 else if x.2.2.2.2.1 > x.2.2.2.1 then x.2.2.2.2.1 else x.2.2.2.1) ≤ (1048576 : Int)))) (T.ret (3 : Int)) (T.ret (0 : Int)))))
noncomputable def xform_Check (x : ((Int × Int × Int) × (Int × Int × Int) × (Int × Int × Int) × Int × Int × Int)) : Option (Int) := (xform_Check.t x).run
noncomputable def xform_Check.q : List AV → T AV := entry [(.st (.pair TP (.pair TP (.pair TP TP))))] (outR [TI]) fun x => .opt (xform_Check x) .ret
theorem xform_Check.ok : FnOK Tryd.prog 96 xform_Check.q :=
  entry_call (ps := [(.st (.pair TP (.pair TP (.pair TP TP))))]) (rs := [TI]) (F := ({ quiet := (ext Xs 108 xform_within.q), deep := noDeep } : Fns)) (D := D0) (S := tabS []) (t := xform_Check.t) mixed (quiet_ext Xok xform_within.ok) (deep_none _) Tryd.func96 (by kernel_rfl) (sok_fn trivial) (by kernel_rfl) (fun x => by kernel_rfl)
end Go.Proofs.Pen

namespace Go.Proofs.Pen
open Go Go.Proofs
noncomputable def xform_dot_1.t (x : (Int × Int × Int) × (Int × Int × Int)) : T (Int) := T.ite (decide ((10 : Int) < (0 : Int))) T.fail (T.ret ((W (W (W (x.1.1 * x.2.1) + W (x.1.2.1 * x.2.2.1)) + W (x.1.2.2 * x.2.2.2))).fdiv ((2 : Int) ^ min (Int.toNat (10 : Int)) IntKind.i64.bits)))
noncomputable def xform_dot_1 (x : (Int × Int × Int) × (Int × Int × Int)) : Option (Int) := (xform_dot_1.t x).run
noncomputable def xform_dot_1.q : List AV → T AV := entry [TP, (.ptr TP)] (outR [TI]) fun x => .opt (xform_dot_1 x) .ret
theorem xform_dot_1.ok : FnOK Tryd.prog 112 xform_dot_1.q :=
  entry_call (ps := [TP, (.ptr TP)]) (rs := [TI]) (F := ({ quiet := Xs, deep := noDeep } : Fns)) (D := D0) (S := tabS []) (t := xform_dot_1.t) mixed Xok (deep_none _) Tryd.func112 (by kernel_rfl) (sok_fn trivial) (by kernel_rfl) (fun x => by kernel_rfl)
end Go.Proofs.Pen

namespace Go.Proofs.Pen
open Go Go.Proofs
noncomputable def xform_dot.t (x : (Int × Int × Int)) : T ((Int × Int × Int)) := T.ret x
noncomputable def xform_dot.q : List AV → T AV := entry [TP] (outR [(.clo 112 (.ptr TP))]) xform_dot.t
theorem xform_dot.ok : FnOK Tryd.prog 109 xform_dot.q :=
  entry_in (ps := [TP]) (rs := [(.clo 112 (.ptr TP))]) (F := ({ quiet := (ext Xs 112 xform_dot_1.q), deep := noDeep } : Fns)) (D := D0) (S := tabS []) (t := xform_dot.t) mixed (quiet_ext Xok xform_dot_1.ok) (deep_none _) Tryd.func109 (by kernel_rfl) (sok_fn trivial) (by kernel_rfl) (fun x => by kernel_rfl)
end Go.Proofs.Pen

namespace Go.Proofs.Pen
open Go Go.Proofs
noncomputable def xform_Apply.t (x : ((Int × Int × Int) × (Int × Int × Int) × (Int × Int × Int) × Int × Int × Int) × (Int × Int × Int)) : T ((Int × Int × Int) × Int) := T.opt (xform_Check x.1) fun y => T.ite (y != (0 : Int)) (T.ret (((0 : Int), (0 : Int), (0 : Int)), (3 : Int))) (T.ite (!(decide ((if x.2.2.2 < if x.2.2.1 < x.2.1 then x.2.2.1 else x.2.1 then x.2.2.2 else if x.2.2.1 < x.2.1 then x.2.2.1 else x.2.1) ≥ W ((0 : Int) - (1048576 : Int))) && decide ((if x.2.2.2 > if x.2.2.1 > x.2.1 then x.2.2.1 else x.2.1 then x.2.2.2 else if x.2.2.1 > x.2.1 then x.2.2.1 else x.2.1) ≤ (1048576 : Int)))) (T.ret (((0 : Int), (0 : Int), (0 : Int)), (3 : Int))) (T.opt (xform_dot_1 (x.1.1, x.2)) fun y => T.opt (xform_dot_1 (x.1.2.1, x.2)) fun y_1 => T.opt (xform_dot_1 (x.1.2.2.1, x.2)) fun y_2 => T.ret ((W (y + x.1.2.2.2.1), W (y_1 + x.1.2.2.2.2.1), W (y_2 + x.1.2.2.2.2.2)), (0 : Int))))
noncomputable def xform_Apply (x : ((Int × Int × Int) × (Int × Int × Int) × (Int × Int × Int) × Int × Int × Int) × (Int × Int × Int)) : Option ((Int × Int × Int) × Int) := (xform_Apply.t x).run
noncomputable def xform_Apply.q : List AV → T AV := entry [(.st (.pair TP (.pair TP (.pair TP TP)))), TP] (outR [TP, TI]) fun x => .opt (xform_Apply x) .ret
theorem xform_Apply.ok : FnOK Tryd.prog 97 xform_Apply.q :=
  entry_call (ps := [(.st (.pair TP (.pair TP (.pair TP TP)))), TP]) (rs := [TP, TI]) (F := ({ quiet := (ext (ext (ext (ext Xs 96 xform_Check.q) 108 xform_within.q) 109 xform_dot.q) 112 xform_dot_1.q), deep := noDeep } : Fns)) (D := D0) (S := tabS []) (t := xform_Apply.t) mixed (quiet_ext (quiet_ext (quiet_ext (quiet_ext Xok xform_Check.ok) xform_within.ok) xform_dot.ok) xform_dot_1.ok) (deep_none _) Tryd.func97 (by kernel_rfl) (sok_fn trivial) (by kernel_rfl) (fun x => by kernel_rfl)
end Go.Proofs.Pen

namespace Go.Proofs.Pen
open Go Go.Proofs
def xform_Mesh.L0 : List (Nat × Lay) := [(2, .box (.st (.pair TP (.pair TP (.pair TP TP))))), (4, .box (.st (.pair (.sl TP) (.sl TP)))), (7, .obx [.own TP, .own TP]), (28, .val (.sl TP)), (29, .val TI), (30, .val TI)]
noncomputable def xform_Mesh.t0 (x : ((Int × Int × Int) × (Int × Int × Int) × (Int × Int × Int) × Int × Int × Int) × ((List (Int × Int × Int)) × List (Int × Int × Int)) × (List (Int × Int × Int) × List (Int × Int × Int) × Unit) × (List (Int × Int × Int)) × Int × Int × Unit) : T (Ex × ((Int × Int × Int) × (Int × Int × Int) × (Int × Int × Int) × Int × Int × Int) × ((List (Int × Int × Int)) × List (Int × Int × Int)) × (List (Int × Int × Int) × List (Int × Int × Int) × Unit) × (List (Int × Int × Int)) × Int × Int × Unit) := T.ite (decide (x.2.2.2.2.2.1 < x.2.2.2.2.1)) (T.opt (lget x.2.2.2.1 x.2.2.2.2.2.1) fun y => T.opt (xform_Apply (x.1, y)) fun y => T.ite (decide ((x.2.2.1.1.length + (1 : Nat)) * nat_lit 24 ≤ most)) (T.ret (Ex.normal, x.1, x.2.1, (List.take (x.2.2.1.1.length + (1 : Nat)) (List.take x.2.2.1.1.length x.2.2.1.1 ++ [y.1]), List.take x.2.2.1.2.1.length x.2.2.1.2.1, ()), x.2.2.2.1, x.2.2.2.2.1, W (x.2.2.2.2.2.1 + (1 : Int)), ())) T.fail) (T.ret (Ex.exit (0 : Nat), x.1, x.2.1, (List.take x.2.2.1.1.length x.2.2.1.1, List.take x.2.2.1.2.1.length x.2.2.1.2.1, ()), x.2.2.2.1, x.2.2.2.2.1, x.2.2.2.2.2.1, ()))
noncomputable def xform_Mesh.l0 (x : ((Int × Int × Int) × (Int × Int × Int) × (Int × Int × Int) × Int × Int × Int) × ((List (Int × Int × Int)) × List (Int × Int × Int)) × (List (Int × Int × Int) × List (Int × Int × Int) × Unit) × (List (Int × Int × Int)) × Int × Int × Unit) : Option (Ex × ((Int × Int × Int) × (Int × Int × Int) × (Int × Int × Int) × Int × Int × Int) × ((List (Int × Int × Int)) × List (Int × Int × Int)) × (List (Int × Int × Int) × List (Int × Int × Int) × Unit) × (List (Int × Int × Int)) × Int × Int × Unit) := (iterT xform_Mesh.t0 rounds x).run
theorem xform_Mesh.k0 : bodies 0 (lp Tryd.f59 []) = [.loop (loopIn 0 (lp Tryd.f59 []))] ∧ WP Tryd.prog 0 (.block 0 (.loop (loopIn 0 (lp Tryd.f59 [])))) (loopS xform_Mesh.L0 54 0 [.exit 0] xform_Mesh.l0) :=
  loop_tree (L := xform_Mesh.L0) (F := ({ quiet := (ext (ext (ext (ext Xs 95 mesh_Check.q) 96 xform_Check.q) 97 xform_Apply.q) 112 xform_dot_1.q), deep := noDeep } : Fns)) (D := D0) (tab := []) (t := xform_Mesh.t0) mixed (quiet_ext (quiet_ext (quiet_ext (quiet_ext Xok mesh_Check.ok) xform_Check.ok) xform_Apply.ok) xform_dot_1.ok) (deep_none _) (fun _ => rfl) (by kernel_rfl) (by kernel_rfl) trivial (fun x => by kernel_rfl)
noncomputable def xform_Mesh.t (x : ((Int × Int × Int) × (Int × Int × Int) × (Int × Int × Int) × Int × Int × Int) × ((List (Int × Int × Int)) × List (Int × Int × Int))) : T (((List (Int × Int × Int)) × List (Int × Int × Int)) × Int) := T.opt (mesh_Check x.2) fun y => T.ite (y != (0 : Int)) (T.ret (([], []), y)) (T.ite (decide (List.length x.2.2 * nat_lit 24 ≤ most)) (T.opt (xform_Check x.1) fun y => T.ite (y != (0 : Int)) (T.ret (([], []), (3 : Int))) (T.opt (xform_Mesh.l0 (x.1, ([], []), ([], List.take (List.length x.2.2) x.2.2, ()), x.2.1, (↑(List.length x.2.1) : Int), (0 : Int), ())) fun y => T.ite (exEq y.1 (Ex.exit (0 : Nat))) (T.opt (mesh_Check (List.take y.2.2.2.1.1.length y.2.2.2.1.1, List.take y.2.2.2.1.2.1.length y.2.2.2.1.2.1)) fun y_1 => T.ite (y_1 != (0 : Int)) (T.ret (([], []), y_1)) (T.ret ((List.take y.2.2.2.1.1.length y.2.2.2.1.1, List.take y.2.2.2.1.2.1.length y.2.2.2.1.2.1), (0 : Int)))) T.fail)) T.fail)
noncomputable def xform_Mesh (x : ((Int × Int × Int) × (Int × Int × Int) × (Int × Int × Int) × Int × Int × Int) × ((List (Int × Int × Int)) × List (Int × Int × Int))) : Option (((List (Int × Int × Int)) × List (Int × Int × Int)) × Int) := (xform_Mesh.t x).run
noncomputable def xform_Mesh.q : List AV → T AV := entry [(.st (.pair TP (.pair TP (.pair TP TP)))), (.st (.pair (.sl TP) (.sl TP)))] (outR [(.st (.pair (.sl TP) (.sl TP))), TI]) fun x => .opt (xform_Mesh x) .ret
theorem xform_Mesh.ok : FnOK Tryd.prog 59 xform_Mesh.q :=
  entry_call (ps := [(.st (.pair TP (.pair TP (.pair TP TP)))), (.st (.pair (.sl TP) (.sl TP)))]) (rs := [(.st (.pair (.sl TP) (.sl TP))), TI]) (F := ({ quiet := (ext (ext (ext (ext Xs 95 mesh_Check.q) 96 xform_Check.q) 97 xform_Apply.q) 112 xform_dot_1.q), deep := noDeep } : Fns)) (D := D0) (S := tabS [(0, loopS xform_Mesh.L0 54 0 [.exit 0] xform_Mesh.l0)]) (t := xform_Mesh.t) mixed (quiet_ext (quiet_ext (quiet_ext (quiet_ext Xok mesh_Check.ok) xform_Check.ok) xform_Apply.ok) xform_dot_1.ok) (deep_none _) Tryd.func59 (by kernel_rfl) (sok_fn ⟨xform_Mesh.k0, trivial⟩) (by kernel_rfl) (fun x => by kernel_rfl)
end Go.Proofs.Pen

namespace Go.Proofs.Pen
open Go Go.Proofs
def mesh_Tris.L0 : List (Nat × Lay) := [(1, .val TI), (2, .box (.st (.pair (.sl TP) (.sl TP)))), (7, .row TTriD), (17, .val (.sl TP)), (18, .val TI), (19, .val TI)]
noncomputable def mesh_Tris.t0 (x : Int × ((List (Int × Int × Int)) × List (Int × Int × Int)) × List ((Int × Int × Int) × (Int × Int × Int) × (Int × Int × Int) × Int) × (List (Int × Int × Int)) × Int × Int × Unit) : T (Ex × Int × ((List (Int × Int × Int)) × List (Int × Int × Int)) × List ((Int × Int × Int) × (Int × Int × Int) × (Int × Int × Int) × Int) × (List (Int × Int × Int)) × Int × Int × Unit) := T.ite (decide (x.2.2.2.2.2.1 < x.2.2.2.2.1)) (T.opt (lget x.2.2.2.1 x.2.2.2.2.2.1) fun y => T.opt (mesh_corners (x.2.1, y)) fun y => T.ite (decide ((x.2.2.1.length + (1 : Nat)) * nat_lit 80 ≤ most)) (T.ret (Ex.normal, x.1, x.2.1, List.take (x.2.2.1.length + (1 : Nat)) (List.take x.2.2.1.length x.2.2.1 ++ [(y.1, y.2.1, y.2.2, x.1)]), x.2.2.2.1, x.2.2.2.2.1, W (x.2.2.2.2.2.1 + (1 : Int)), ())) T.fail) (T.ret (Ex.exit (0 : Nat), x.1, x.2.1, List.take x.2.2.1.length x.2.2.1, x.2.2.2.1, x.2.2.2.2.1, x.2.2.2.2.2.1, ()))
noncomputable def mesh_Tris.l0 (x : Int × ((List (Int × Int × Int)) × List (Int × Int × Int)) × List ((Int × Int × Int) × (Int × Int × Int) × (Int × Int × Int) × Int) × (List (Int × Int × Int)) × Int × Int × Unit) : Option (Ex × Int × ((List (Int × Int × Int)) × List (Int × Int × Int)) × List ((Int × Int × Int) × (Int × Int × Int) × (Int × Int × Int) × Int) × (List (Int × Int × Int)) × Int × Int × Unit) := (iterT mesh_Tris.t0 rounds x).run
theorem mesh_Tris.k0 : bodies 0 (lp Tryd.f60 []) = [.loop (loopIn 0 (lp Tryd.f60 []))] ∧ WP Tryd.prog 0 (.block 0 (.loop (loopIn 0 (lp Tryd.f60 [])))) (loopS mesh_Tris.L0 39 0 [.exit 0] mesh_Tris.l0) :=
  loop_tree (L := mesh_Tris.L0) (F := ({ quiet := (ext (ext Xs 95 mesh_Check.q) 98 mesh_corners.q), deep := noDeep } : Fns)) (D := D0) (tab := []) (t := mesh_Tris.t0) mixed (quiet_ext (quiet_ext Xok mesh_Check.ok) mesh_corners.ok) (deep_none _) (fun _ => rfl) (by kernel_rfl) (by kernel_rfl) trivial (fun x => by kernel_rfl)
noncomputable def mesh_Tris.t (x : ((List (Int × Int × Int)) × List (Int × Int × Int)) × Int) : T ((List ((Int × Int × Int) × (Int × Int × Int) × (Int × Int × Int) × Int)) × Int) := T.opt (mesh_Check x.1) fun y => T.ite (y != (0 : Int)) (T.ret ([], y)) (T.opt (mesh_Tris.l0 (x.2, x.1, [], x.1.2, (↑(List.length x.1.2) : Int), (0 : Int), ())) fun y => T.ite (exEq y.1 (Ex.exit (0 : Nat))) (T.ret (List.take y.2.2.2.1.length y.2.2.2.1, (0 : Int))) T.fail)
noncomputable def mesh_Tris (x : ((List (Int × Int × Int)) × List (Int × Int × Int)) × Int) : Option ((List ((Int × Int × Int) × (Int × Int × Int) × (Int × Int × Int) × Int)) × Int) := (mesh_Tris.t x).run
noncomputable def mesh_Tris.q : List AV → T AV := entry [(.st (.pair (.sl TP) (.sl TP))), TI] (outR [(.sl TTriD), TI]) fun x => .opt (mesh_Tris x) .ret
theorem mesh_Tris.ok : FnOK Tryd.prog 60 mesh_Tris.q :=
  entry_call (ps := [(.st (.pair (.sl TP) (.sl TP))), TI]) (rs := [(.sl TTriD), TI]) (F := ({ quiet := (ext (ext Xs 95 mesh_Check.q) 98 mesh_corners.q), deep := noDeep } : Fns)) (D := D0) (S := tabS [(0, loopS mesh_Tris.L0 39 0 [.exit 0] mesh_Tris.l0)]) (t := mesh_Tris.t) mixed (quiet_ext (quiet_ext Xok mesh_Check.ok) mesh_corners.ok) (deep_none _) Tryd.func60 (by kernel_rfl) (sok_fn ⟨mesh_Tris.k0, trivial⟩) (by kernel_rfl) (fun x => by kernel_rfl)
end Go.Proofs.Pen

namespace Go.Proofs.Pen
open Go Go.Proofs
set_option maxRecDepth 100000
noncomputable def law47_awake.t (_ : Unit) : T (Bool) := T.ret true
noncomputable def law47_awake.q : List AV → T AV := entry [] (outR [.bool]) fun _ => .ret (true : dens [.bool])
theorem law47_awake.ok : FnOK Tryd.prog 27 law47_awake.q := peT_entry mixed (quiet_ext (quiet_ext (quiet_ext (quiet_ext Xok scene_Check.ok) build_shape.ok) xform_Mesh.ok) mesh_Tris.ok) [10, 25, 58, 59, 60] tbOk 100 20 Tryd.func27 (by kernel_rfl) (by kernel_rfl)
end Go.Proofs.Pen

namespace Go.Proofs.Pen
open Go Go.Proofs
noncomputable def law47_BuildNone.deeps : Deeps := { D := [28, 29, 30, 31, 32, 33, 34], C := [], frz := false, S := fun _ _ => noS }
theorem law47_BuildNone.deepsOk : LoopsOK Tryd.prog law47_BuildNone.deeps.S := (loops_none _)
noncomputable def law47_BuildNone.t (x : (Int × Int × Int × Int × (Int × Int × Int) × (Int × Int × Int) × ((Int × Int × Int) × (Int × Int × Int) × (Int × Int × Int) × Int × Int × Int) × ((Int × Int × Int) × (Int × Int × Int) × Int) × List (Int × Int × Int))) : T (Bool) := T.ite (decide ((↑(List.length x.2.2.2.2.2.2.2.2) : Int) > (200 : Int))) (T.ret true) (T.ite true (T.ite (decide (x.2.2.2.1 < (0 : Int))) (T.ite true (T.opt (fault_New ((1 : Int), (0 : Int))) fun y => T.ite ((0 : Int) == (0 : Int) && (1 : Int) == (1 : Int)) (T.ite true (T.ite ((-1 : Int) == (-1 : Int)) (T.ite true (T.ite ((1 : Int) == (1 : Int)) (T.ite true (T.ite ((1 : Int) == (1 : Int)) (T.ite true (T.ite (W (W ((0 : Int) + (0 : Int)) + (0 : Int)) == (0 : Int)) (T.ret (y.top == (1 : Int))) (T.ret false)) T.fail) (T.ret false)) (T.ite ((↑(List.length x.2.2.2.2.2.2.2.2) : Int) == (0 : Int)) (T.ite ((14 : Int) == (1 : Int)) (T.ite true (T.ite (W (W ((0 : Int) + (0 : Int)) + (0 : Int)) == (0 : Int)) (T.ret (y.top == (1 : Int))) (T.ret false)) T.fail) (T.ret false)) (T.ite ((↑(List.length x.2.2.2.2.2.2.2.2) : Int).tmod (8 : Int) != (0 : Int) || decide (W ((↑(List.length x.2.2.2.2.2.2.2.2) : Int).tdiv (8 : Int)) > (16 : Int))) (T.ite ((14 : Int) == (1 : Int)) (T.ite true (T.ite (W (W ((0 : Int) + (0 : Int)) + (0 : Int)) == (0 : Int)) (T.ret (y.top == (1 : Int))) (T.ret false)) T.fail) (T.ret false)) T.fail))) (T.ret false)) (T.ite (decide (x.2.2.2.1 < (0 : Int))) (T.ite ((8 : Int) == (1 : Int)) (T.ite true (T.ite ((1 : Int) == (1 : Int)) (T.ite true (T.ite (W (W ((0 : Int) + (0 : Int)) + (0 : Int)) == (0 : Int)) (T.ret (y.top == (1 : Int))) (T.ret false)) T.fail) (T.ret false)) (T.ite ((↑(List.length x.2.2.2.2.2.2.2.2) : Int) == (0 : Int)) (T.ite ((14 : Int) == (1 : Int)) (T.ite true (T.ite (W (W ((0 : Int) + (0 : Int)) + (0 : Int)) == (0 : Int)) (T.ret (y.top == (1 : Int))) (T.ret false)) T.fail) (T.ret false)) (T.ite ((↑(List.length x.2.2.2.2.2.2.2.2) : Int).tmod (8 : Int) != (0 : Int) || decide (W ((↑(List.length x.2.2.2.2.2.2.2.2) : Int).tdiv (8 : Int)) > (16 : Int))) (T.ite ((14 : Int) == (1 : Int)) (T.ite true (T.ite (W (W ((0 : Int) + (0 : Int)) + (0 : Int)) == (0 : Int)) (T.ret (y.top == (1 : Int))) (T.ret false)) T.fail) (T.ret false)) T.fail))) (T.ret false)) (T.ite true (T.ite (decide (x.2.2.2.1 ≥ (0 : Int))) (T.ite ((8 : Int) == (1 : Int)) (T.ite true (T.ite ((1 : Int) == (1 : Int)) (T.ite true (T.ite (W (W ((0 : Int) + (0 : Int)) + (0 : Int)) == (0 : Int)) (T.ret (y.top == (1 : Int))) (T.ret false)) T.fail) (T.ret false)) (T.ite ((↑(List.length x.2.2.2.2.2.2.2.2) : Int) == (0 : Int)) (T.ite ((14 : Int) == (1 : Int)) (T.ite true (T.ite (W (W ((0 : Int) + (0 : Int)) + (0 : Int)) == (0 : Int)) (T.ret (y.top == (1 : Int))) (T.ret false)) T.fail) (T.ret false)) (T.ite ((↑(List.length x.2.2.2.2.2.2.2.2) : Int).tmod (8 : Int) != (0 : Int) || decide (W ((↑(List.length x.2.2.2.2.2.2.2.2) : Int).tdiv (8 : Int)) > (16 : Int))) (T.ite ((14 : Int) == (1 : Int)) (T.ite true (T.ite (W (W ((0 : Int) + (0 : Int)) + (0 : Int)) == (0 : Int)) (T.ret (y.top == (1 : Int))) (T.ret false)) T.fail) (T.ret false)) T.fail))) (T.ret false)) T.fail) T.fail))) (T.ret false)) T.fail) (T.ret false)) T.fail) (T.ite true (T.ite (decide (x.2.2.2.1 ≥ (0 : Int))) (T.ite true (T.opt (fault_New ((1 : Int), (0 : Int))) fun y => T.ite ((0 : Int) == (0 : Int) && (1 : Int) == (1 : Int)) (T.ite true (T.ite ((-1 : Int) == (-1 : Int)) (T.ite true (T.ite ((1 : Int) == (1 : Int)) (T.ite true (T.ite ((1 : Int) == (1 : Int)) (T.ite true (T.ite (W (W ((0 : Int) + (0 : Int)) + (0 : Int)) == (0 : Int)) (T.ret (y.top == (1 : Int))) (T.ret false)) T.fail) (T.ret false)) (T.ite ((↑(List.length x.2.2.2.2.2.2.2.2) : Int) == (0 : Int)) (T.ite ((14 : Int) == (1 : Int)) (T.ite true (T.ite (W (W ((0 : Int) + (0 : Int)) + (0 : Int)) == (0 : Int)) (T.ret (y.top == (1 : Int))) (T.ret false)) T.fail) (T.ret false)) (T.ite ((↑(List.length x.2.2.2.2.2.2.2.2) : Int).tmod (8 : Int) != (0 : Int) || decide (W ((↑(List.length x.2.2.2.2.2.2.2.2) : Int).tdiv (8 : Int)) > (16 : Int))) (T.ite ((14 : Int) == (1 : Int)) (T.ite true (T.ite (W (W ((0 : Int) + (0 : Int)) + (0 : Int)) == (0 : Int)) (T.ret (y.top == (1 : Int))) (T.ret false)) T.fail) (T.ret false)) T.fail))) (T.ret false)) (T.ite (decide (x.2.2.2.1 < (0 : Int))) (T.ite ((8 : Int) == (1 : Int)) (T.ite true (T.ite ((1 : Int) == (1 : Int)) (T.ite true (T.ite (W (W ((0 : Int) + (0 : Int)) + (0 : Int)) == (0 : Int)) (T.ret (y.top == (1 : Int))) (T.ret false)) T.fail) (T.ret false)) (T.ite ((↑(List.length x.2.2.2.2.2.2.2.2) : Int) == (0 : Int)) (T.ite ((14 : Int) == (1 : Int)) (T.ite true (T.ite (W (W ((0 : Int) + (0 : Int)) + (0 : Int)) == (0 : Int)) (T.ret (y.top == (1 : Int))) (T.ret false)) T.fail) (T.ret false)) (T.ite ((↑(List.length x.2.2.2.2.2.2.2.2) : Int).tmod (8 : Int) != (0 : Int) || decide (W ((↑(List.length x.2.2.2.2.2.2.2.2) : Int).tdiv (8 : Int)) > (16 : Int))) (T.ite ((14 : Int) == (1 : Int)) (T.ite true (T.ite (W (W ((0 : Int) + (0 : Int)) + (0 : Int)) == (0 : Int)) (T.ret (y.top == (1 : Int))) (T.ret false)) T.fail) (T.ret false)) T.fail))) (T.ret false)) (T.ite true (T.ite (decide (x.2.2.2.1 ≥ (0 : Int))) (T.ite ((8 : Int) == (1 : Int)) (T.ite true (T.ite ((1 : Int) == (1 : Int)) (T.ite true (T.ite (W (W ((0 : Int) + (0 : Int)) + (0 : Int)) == (0 : Int)) (T.ret (y.top == (1 : Int))) (T.ret false)) T.fail) (T.ret false)) (T.ite ((↑(List.length x.2.2.2.2.2.2.2.2) : Int) == (0 : Int)) (T.ite ((14 : Int) == (1 : Int)) (T.ite true (T.ite (W (W ((0 : Int) + (0 : Int)) + (0 : Int)) == (0 : Int)) (T.ret (y.top == (1 : Int))) (T.ret false)) T.fail) (T.ret false)) (T.ite ((↑(List.length x.2.2.2.2.2.2.2.2) : Int).tmod (8 : Int) != (0 : Int) || decide (W ((↑(List.length x.2.2.2.2.2.2.2.2) : Int).tdiv (8 : Int)) > (16 : Int))) (T.ite ((14 : Int) == (1 : Int)) (T.ite true (T.ite (W (W ((0 : Int) + (0 : Int)) + (0 : Int)) == (0 : Int)) (T.ret (y.top == (1 : Int))) (T.ret false)) T.fail) (T.ret false)) T.fail))) (T.ret false)) T.fail) T.fail))) (T.ret false)) T.fail) (T.ret false)) T.fail) (T.ite (x.2.2.2.1 == (0 : Int)) T.fail T.fail)) T.fail)) (T.ite (decide (x.2.1 < (1 : Int)) || decide (x.2.1 > (3 : Int)) || decide (x.2.2.1 < (0 : Int))) (T.ite (decide (x.2.2.2.1 < (0 : Int))) (T.ite true (T.opt (fault_New ((1 : Int), (0 : Int))) fun y => T.ite ((0 : Int) == (0 : Int) && (2 : Int) == (1 : Int)) (T.ite true (T.ite ((-1 : Int) == (-1 : Int)) (T.ite true (T.ite ((1 : Int) == (1 : Int)) (T.ite true (T.ite ((1 : Int) == (1 : Int)) (T.ite true (T.ite (W (W ((0 : Int) + (0 : Int)) + (0 : Int)) == (0 : Int)) (T.ret (y.top == (1 : Int))) (T.ret false)) T.fail) (T.ret false)) (T.ite ((↑(List.length x.2.2.2.2.2.2.2.2) : Int) == (0 : Int)) (T.ite ((14 : Int) == (1 : Int)) (T.ite true (T.ite (W (W ((0 : Int) + (0 : Int)) + (0 : Int)) == (0 : Int)) (T.ret (y.top == (1 : Int))) (T.ret false)) T.fail) (T.ret false)) (T.ite ((↑(List.length x.2.2.2.2.2.2.2.2) : Int).tmod (8 : Int) != (0 : Int) || decide (W ((↑(List.length x.2.2.2.2.2.2.2.2) : Int).tdiv (8 : Int)) > (16 : Int))) (T.ite ((14 : Int) == (1 : Int)) (T.ite true (T.ite (W (W ((0 : Int) + (0 : Int)) + (0 : Int)) == (0 : Int)) (T.ret (y.top == (1 : Int))) (T.ret false)) T.fail) (T.ret false)) T.fail))) (T.ret false)) (T.ite (decide (x.2.2.2.1 < (0 : Int))) (T.ite ((8 : Int) == (1 : Int)) (T.ite true (T.ite ((1 : Int) == (1 : Int)) (T.ite true (T.ite (W (W ((0 : Int) + (0 : Int)) + (0 : Int)) == (0 : Int)) (T.ret (y.top == (1 : Int))) (T.ret false)) T.fail) (T.ret false)) (T.ite ((↑(List.length x.2.2.2.2.2.2.2.2) : Int) == (0 : Int)) (T.ite ((14 : Int) == (1 : Int)) (T.ite true (T.ite (W (W ((0 : Int) + (0 : Int)) + (0 : Int)) == (0 : Int)) (T.ret (y.top == (1 : Int))) (T.ret false)) T.fail) (T.ret false)) (T.ite ((↑(List.length x.2.2.2.2.2.2.2.2) : Int).tmod (8 : Int) != (0 : Int) || decide (W ((↑(List.length x.2.2.2.2.2.2.2.2) : Int).tdiv (8 : Int)) > (16 : Int))) (T.ite ((14 : Int) == (1 : Int)) (T.ite true (T.ite (W (W ((0 : Int) + (0 : Int)) + (0 : Int)) == (0 : Int)) (T.ret (y.top == (1 : Int))) (T.ret false)) T.fail) (T.ret false)) T.fail))) (T.ret false)) (T.ite true (T.ite (decide (x.2.2.2.1 ≥ (0 : Int))) (T.ite ((8 : Int) == (1 : Int)) (T.ite true (T.ite ((1 : Int) == (1 : Int)) (T.ite true (T.ite (W (W ((0 : Int) + (0 : Int)) + (0 : Int)) == (0 : Int)) (T.ret (y.top == (1 : Int))) (T.ret false)) T.fail) (T.ret false)) (T.ite ((↑(List.length x.2.2.2.2.2.2.2.2) : Int) == (0 : Int)) (T.ite ((14 : Int) == (1 : Int)) (T.ite true (T.ite (W (W ((0 : Int) + (0 : Int)) + (0 : Int)) == (0 : Int)) (T.ret (y.top == (1 : Int))) (T.ret false)) T.fail) (T.ret false)) (T.ite ((↑(List.length x.2.2.2.2.2.2.2.2) : Int).tmod (8 : Int) != (0 : Int) || decide (W ((↑(List.length x.2.2.2.2.2.2.2.2) : Int).tdiv (8 : Int)) > (16 : Int))) (T.ite ((14 : Int) == (1 : Int)) (T.ite true (T.ite (W (W ((0 : Int) + (0 : Int)) + (0 : Int)) == (0 : Int)) (T.ret (y.top == (1 : Int))) (T.ret false)) T.fail) (T.ret false)) T.fail))) (T.ret false)) T.fail) T.fail))) (T.ret false)) T.fail) (T.ret false)) T.fail) (T.ite true (T.ite (decide (x.2.2.2.1 ≥ (0 : Int))) (T.ite true (T.opt (fault_New ((1 : Int), (0 : Int))) fun y => T.ite ((0 : Int) == (0 : Int) && (2 : Int) == (1 : Int)) (T.ite true (T.ite ((-1 : Int) == (-1 : Int)) (T.ite true (T.ite ((1 : Int) == (1 : Int)) (T.ite true (T.ite ((1 : Int) == (1 : Int)) (T.ite true (T.ite (W (W ((0 : Int) + (0 : Int)) + (0 : Int)) == (0 : Int)) (T.ret (y.top == (1 : Int))) (T.ret false)) T.fail) (T.ret false)) (T.ite ((↑(List.length x.2.2.2.2.2.2.2.2) : Int) == (0 : Int)) (T.ite ((14 : Int) == (1 : Int)) (T.ite true (T.ite (W (W ((0 : Int) + (0 : Int)) + (0 : Int)) == (0 : Int)) (T.ret (y.top == (1 : Int))) (T.ret false)) T.fail) (T.ret false)) (T.ite ((↑(List.length x.2.2.2.2.2.2.2.2) : Int).tmod (8 : Int) != (0 : Int) || decide (W ((↑(List.length x.2.2.2.2.2.2.2.2) : Int).tdiv (8 : Int)) > (16 : Int))) (T.ite ((14 : Int) == (1 : Int)) (T.ite true (T.ite (W (W ((0 : Int) + (0 : Int)) + (0 : Int)) == (0 : Int)) (T.ret (y.top == (1 : Int))) (T.ret false)) T.fail) (T.ret false)) T.fail))) (T.ret false)) (T.ite (decide (x.2.2.2.1 < (0 : Int))) (T.ite ((8 : Int) == (1 : Int)) (T.ite true (T.ite ((1 : Int) == (1 : Int)) (T.ite true (T.ite (W (W ((0 : Int) + (0 : Int)) + (0 : Int)) == (0 : Int)) (T.ret (y.top == (1 : Int))) (T.ret false)) T.fail) (T.ret false)) (T.ite ((↑(List.length x.2.2.2.2.2.2.2.2) : Int) == (0 : Int)) (T.ite ((14 : Int) == (1 : Int)) (T.ite true (T.ite (W (W ((0 : Int) + (0 : Int)) + (0 : Int)) == (0 : Int)) (T.ret (y.top == (1 : Int))) (T.ret false)) T.fail) (T.ret false)) (T.ite ((↑(List.length x.2.2.2.2.2.2.2.2) : Int).tmod (8 : Int) != (0 : Int) || decide (W ((↑(List.length x.2.2.2.2.2.2.2.2) : Int).tdiv (8 : Int)) > (16 : Int))) (T.ite ((14 : Int) == (1 : Int)) (T.ite true (T.ite (W (W ((0 : Int) + (0 : Int)) + (0 : Int)) == (0 : Int)) (T.ret (y.top == (1 : Int))) (T.ret false)) T.fail) (T.ret false)) T.fail))) (T.ret false)) (T.ite true (T.ite (decide (x.2.2.2.1 ≥ (0 : Int))) (T.ite ((8 : Int) == (1 : Int)) (T.ite true (T.ite ((1 : Int) == (1 : Int)) (T.ite true (T.ite (W (W ((0 : Int) + (0 : Int)) + (0 : Int)) == (0 : Int)) (T.ret (y.top == (1 : Int))) (T.ret false)) T.fail) (T.ret false)) (T.ite ((↑(List.length x.2.2.2.2.2.2.2.2) : Int) == (0 : Int)) (T.ite ((14 : Int) == (1 : Int)) (T.ite true (T.ite (W (W ((0 : Int) + (0 : Int)) + (0 : Int)) == (0 : Int)) (T.ret (y.top == (1 : Int))) (T.ret false)) T.fail) (T.ret false)) (T.ite ((↑(List.length x.2.2.2.2.2.2.2.2) : Int).tmod (8 : Int) != (0 : Int) || decide (W ((↑(List.length x.2.2.2.2.2.2.2.2) : Int).tdiv (8 : Int)) > (16 : Int))) (T.ite ((14 : Int) == (1 : Int)) (T.ite true (T.ite (W (W ((0 : Int) + (0 : Int)) + (0 : Int)) == (0 : Int)) (T.ret (y.top == (1 : Int))) (T.ret false)) T.fail) (T.ret false)) T.fail))) (T.ret false)) T.fail) T.fail))) (T.ret false)) T.fail) (T.ret false)) T.fail) (T.ite (x.2.2.2.1 == (0 : Int)) T.fail T.fail)) T.fail)) T.fail))
noncomputable def law47_BuildNone (x : (Int × Int × Int × Int × (Int × Int × Int) × (Int × Int × Int) × ((Int × Int × Int) × (Int × Int × Int) × (Int × Int × Int) × Int × Int × Int) × ((Int × Int × Int) × (Int × Int × Int) × Int) × List (Int × Int × Int))) : Option (Bool) := (law47_BuildNone.t x).run
noncomputable def law47_BuildNone.q : List AV → T AV := entry [(.st (.pair TI (.pair TI (.pair TI (.pair TI (.pair TP (.pair TP (.pair (.st (.pair TP (.pair TP (.pair TP TP)))) (.pair TMatD (.sl TP))))))))))] (outR [.bool]) fun x => .opt (law47_BuildNone x) .ret
theorem law47_BuildNone.ok : FnOK Tryd.prog 7 law47_BuildNone.q :=
  entry_call (ps := [(.st (.pair TI (.pair TI (.pair TI (.pair TI (.pair TP (.pair TP (.pair (.st (.pair TP (.pair TP (.pair TP TP)))) (.pair TMatD (.sl TP))))))))))]) (rs := [.bool]) (F := (dp Tryd.prog (ext (ext (ext (ext (ext Xs 27 law47_awake.q) 19 fault_New.q) 87 scene_lights_1.q) 103 scene_within_1.q) 112 xform_dot_1.q) law47_BuildNone.deeps 100 8)) (D := (inL law47_BuildNone.deeps.D)) (S := tabS []) (t := law47_BuildNone.t) mixed (dp_ok mixed (quiet_ext (quiet_ext (quiet_ext (quiet_ext (quiet_ext Xok law47_awake.ok) fault_New.ok) scene_lights_1.ok) scene_within_1.ok) xform_dot_1.ok) law47_BuildNone.deepsOk 100 8).1 (dp_ok mixed (quiet_ext (quiet_ext (quiet_ext (quiet_ext (quiet_ext Xok law47_awake.ok) fault_New.ok) scene_lights_1.ok) scene_within_1.ok) xform_dot_1.ok) law47_BuildNone.deepsOk 100 8).2 Tryd.func7 (by kernel_rfl) (sok_fn trivial) (by kernel_rfl) (fun x => by kernel_rfl)
end Go.Proofs.Pen

namespace Go.Proofs.Pen
open Go Go.Proofs

theorem buildNone_eq (a b c k : Int) (s l : Int × Int × Int) (m : (Int × Int × Int) × (Int × Int × Int) × (Int × Int × Int) × Int × Int × Int) (d : (Int × Int × Int) × (Int × Int × Int) × Int) (cells : List (Int × Int × Int)) :
    (law47_BuildNone.t (a, b, c, k, s, l, m, d, cells)).run = some true := by
  unfold law47_BuildNone.t
  dsimp only
  rw [tr_ite]
  by_cases h : decide ((cells.length : Int) > 200) = true
  · rw [if_pos h]; rfl
  · rw [if_neg h]
    rcases Int.lt_or_le k 0 with hk | hk
    · rw [decide_eq_true hk]
      rfl
    · rw [decide_eq_false (by omega : ¬ k < 0), decide_eq_true (by omega : k ≥ 0)]
      rfl

theorem buildNone_plain (x : dens [(.st (.pair TI (.pair TI (.pair TI (.pair TI (.pair TP (.pair TP (.pair (.st (.pair TP (.pair TP (.pair TP TP)))) (.pair TMatD (.sl TP))))))))))]) (_ : insAll [(.st (.pair TI (.pair TI (.pair TI (.pair TI (.pair TP (.pair TP (.pair (.st (.pair TP (.pair TP (.pair TP TP)))) (.pair TMatD (.sl TP))))))))))] x) : (law47_BuildNone.t x).run = some true :=
  match x with
  | (a, b, c, k, s, l, m, d, cells) => buildNone_eq a b c k s l m d cells
end Go.Proofs.Pen
